/- What the abstract machine's values stand for in Go's memory, and what keeps it so. Conditions: none. -/
import Derived.Test.YtdhkmgloghlnnaaGreatDoorKmA
import Derived.Laws.AppendOwn
import Derived.Laws.Sem
import Derived.Laws.Cells
import Derived.Laws.Rows
import Derived.Laws.Entries
namespace Go.KM
open Go
open Fam (Dn dflt)
open Enc (cells sz mkE glob gany u8)
set_option autoImplicit false
set_option linter.unusedVariables false
set_option linter.unusedSimpArgs false
set_option linter.unusedSectionVars false
inductive Key where
  | loc (d t : Nat)
  | tm (d t i : Nat)
  | lc (d t j : Nat)
  | obj
  | ob (b j : Nat)
  | ar (d i : Nat)
  | rt (d i : Nat)
  | vo (d i : Nat)
def Key.depth : Key → Option Nat
  | .loc d _ | .tm d _ _ | .lc d _ _ | .ar d _ | .rt d _ | .vo d _ => some d
  | _ => none
def Key.cell : Key → Prop
  | .loc _ _ | .obj => False
  | _ => True
structure G where
  fz : Nat → Option (Array Value)
  own : Nat → Option Key
  no : Nat
  oa : Nat → Nat
  lb : Nat → Nat
  fe : Nat → TypeId × (Nat × Nat)
  /-- headers of lists that are lent -/
  va : Nat → Option Value
structure Grow (g g' : G) : Prop where
  fz : ∀ b C, g.fz b = some C → g'.fz b = some C
  no : g.no ≤ g'.no
  oa : ∀ i, i < g.no → g'.oa i = g.oa i
  fe : ∀ b C, g.fz b = some C → g'.fe b = g.fe b
  va : g'.va = g.va
  oe : ∀ i, i < g.no → (g'.fe (g.oa i)).1 = (g.fe (g.oa i)).1
theorem Grow.refl (g : G) : Grow g g := ⟨fun _ _ h => h, Nat.le_refl _, fun _ _ => rfl, fun _ _ _ => rfl, rfl, fun _ _ => rfl⟩
theorem Grow.trans {g g1 g2 : G} (h : Grow g g1) (h' : Grow g1 g2) : Grow g g2 :=
  ⟨fun b C hb => h'.fz b C (h.fz b C hb), Nat.le_trans h.no h'.no, fun i hi => (h'.oa i (Nat.lt_of_lt_of_le hi h.no)).trans (h.oa i hi), fun b C hb => (h'.fe b C (h.fz b C hb)).trans (h.fe b C hb), h'.va.trans h.va, fun i hi => by
    have h1 := h'.oe i (Nat.lt_of_lt_of_le hi h.no)
    rw [h.oa i hi] at h1
    exact h1.trans (h.oe i hi)⟩
section
variable [Enc]
inductive RepF (g : G) : PV → Value → Prop
  | b (x : Bool) : RepF g (.b x) (.bool x)
  | i (k : IntKind) (n : Int) : RepF g (.i k n) (.int k n)
  | s (x : ByteArray) : RepF g (.s x) (.string x)
  | nl : RepF g .nl (.slice none 0 0)
  | np : RepF g .np (.pointer none)
  | ad (i off : Nat) (h : i < g.no) : RepF g (.ad (.obj i) off) (.pointer (some ⟨g.oa i, off, none⟩))
  | fl0 (T : Nat) : RepF g (.fl T []) (.slice none 0 0)
  | ifcN : RepF g (.ifc true) .nilIface
  | vo (i : Nat) (A : Option Addr) (n c : Nat) (h : g.va i = some (.slice A n c)) : RepF g (.vo i) (.slice A n c)
  | ifcS (t : TypeId) (x : Value) : RepF g (.ifc false) (.iface t x)
  | fa (T : Nat) (x : Dn T) (off bk o : Nat) (C : Array Value) (V : Nat → Value) (hf : g.fz bk = some C)
      (hv : ∀ j c, (cells T x)[j]? = some c → C[o + j]? = some (V j)) (hr : ∀ j c, (cells T x)[j]? = some c → RepF g c (V j)) : RepF g (.fa T x off) (.pointer (some ⟨bk, o + off, none⟩))
  | fpN (T : Nat) : RepF g (.fp T none) (.pointer none)
  | fpS (T : Nat) (x : Dn T) (v : Value) (h : RepF g (.fa T x 0) v) : RepF g (.fp T (some x)) v
  | zf : RepF g (.zo 0) .nilFunc
  | zm : RepF g (.zo 1) (.map none)
  | slf (T i : Nat) (b : Bool) (hT : (g.fe (g.oa i)).1 = T) (h : i < g.no) : RepF g (.slf T i b) (.pointer (if b then some ⟨g.oa i, 0, none⟩ else none))
  | foN (T : Nat) : RepF g (.fo T none) (.slice none 0 0)
  | foS (T : Nat) (xs : List (Dn T)) (v : Value) (h : RepF g (.fl T xs) v) : RepF g (.fo T (some xs)) v
  | clo (f : Nat) (caps : List (Nat × Nat)) (h : ∀ x ∈ caps, x.1 < g.no) : RepF g (.clo f caps) (.func (.func f) #[] (caps.map fun x => Value.pointer (some ⟨g.oa x.1, x.2, none⟩)).toArray)
  | fl (T : Nat) (xs : List (Dn T)) (A : Addr) (off cap : Nat) (C : Array Value) (V : Nat → Nat → Value) (hf : xs ≠ [] → A = ⟨A.block, off, none⟩ ∧ g.fz A.block = some C) (hc : xs.length ≤ cap)
      (hv : ∀ i x, xs[i]? = some x → ∀ j c, (cells T x)[j]? = some c → C[off + i * sz T + j]? = some (V i j))
      (hr : ∀ i x, xs[i]? = some x → ∀ j c, (cells T x)[j]? = some c → RepF g c (V i j)) :
      RepF g (.fl T xs) (.slice (some A) xs.length cap)
theorem RepF.mono {g g' : G} (h : Grow g g') {p : PV} {v : Value} (hp : RepF g p v) : RepF g' p v := by
  induction hp with
  | b x => exact .b x
  | i k n => exact .i k n
  | s x => exact .s x
  | nl => exact .nl
  | np => exact .np
  | ad i off hi => rw [← h.oa i hi]; exact .ad i off (Nat.lt_of_lt_of_le hi h.no)
  | fl0 T => exact .fl0 T
  | ifcN => exact .ifcN
  | vo i A n c hv => exact .vo i A n c (by rw [h.va]; exact hv)
  | ifcS t x => exact .ifcS t x
  | fa T x off bk o C V hf hv _ ih => exact .fa T x off bk o C V (h.fz _ _ hf) hv ih
  | fpN T => exact .fpN T
  | fpS T x v _ ih => exact .fpS T x v ih
  | foN T => exact .foN T
  | zf => exact .zf
  | zm => exact .zm
  | slf T i b hT hi => rw [← h.oa i hi]; exact .slf T i b (by rw [h.oa i hi]; exact (h.oe i hi).trans hT) (Nat.lt_of_lt_of_le hi h.no)
  | foS T xs v _ ih => exact .foS T xs v ih
  | clo f caps hc =>
    have : (caps.map fun x => Value.pointer (some ⟨g.oa x.1, x.2, none⟩)) = caps.map fun x => Value.pointer (some ⟨g'.oa x.1, x.2, none⟩) := List.map_congr_left fun x hx => by rw [h.oa x.1 (hc x hx)]
    rw [this]
    exact .clo f caps fun x hx => Nat.lt_of_lt_of_le (hc x hx) h.no
  | fl T xs A off cap C V hf hc hv _ ih => exact .fl T xs A off cap C V (fun hx => ⟨(hf hx).1, h.fz _ _ (hf hx).2⟩) hc hv ih
def CellsAt (g : G) (C : Array Value) (o : Nat) (cs : List PV) : Prop :=
  ∀ j c, cs[j]? = some c → ∃ u, C[o + j]? = some u ∧ RepF g c u
theorem CellsAt.mono {g g' : G} {C : Array Value} {o : Nat} {cs : List PV} (h : Grow g g') (hp : CellsAt g C o cs) : CellsAt g' C o cs :=
  fun j c hc => let ⟨u, h1, h2⟩ := hp j c hc; ⟨u, h1, h2.mono h⟩
theorem RepF.fa' {g : G} {T : Nat} {x : Dn T} {off bk o : Nat} {C : Array Value} (hf : g.fz bk = some C) (h : CellsAt g C o (cells T x)) : RepF g (.fa T x off) (.pointer (some ⟨bk, o + off, none⟩)) := by
  refine .fa T x off bk o C (fun j => (C[o + j]?).getD undef) hf ?_ ?_
  · intro j c hj
    obtain ⟨u, h1, _⟩ := h j c hj
    simp only [h1, Option.getD_some]
  · intro j c hj
    obtain ⟨u, h1, h2⟩ := h j c hj
    simp only [h1, Option.getD_some]
    exact h2
theorem repF_fa {g : G} {T : Nat} {x : Dn T} {off : Nat} {v : Value} (h : RepF g (.fa T x off) v) : ∃ bk o C, v = .pointer (some ⟨bk, o + off, none⟩) ∧ g.fz bk = some C ∧ CellsAt g C o (cells T x) := by
  cases h with
  | fa _ _ _ bk o C V hf hv hr => exact ⟨bk, o, C, rfl, hf, fun j c hj => ⟨V j, hv j c hj, hr j c hj⟩⟩
theorem RepF.fl' {g : G} {T : Nat} {xs : List (Dn T)} {bk off cap : Nat} {C : Array Value} (hf : xs ≠ [] → g.fz bk = some C) (hc : xs.length ≤ cap)
    (h : ∀ i x, xs[i]? = some x → CellsAt g C (off + i * sz T) (cells T x)) : RepF g (.fl T xs) (.slice (some ⟨bk, off, none⟩) xs.length cap) := by
  refine .fl T xs ⟨bk, off, none⟩ off cap C (fun i j => (C[off + i * sz T + j]?).getD undef) (fun hx => ⟨rfl, hf hx⟩) hc ?_ ?_
  · intro i x hx j c hj
    obtain ⟨u, h1, _⟩ := h i x hx j c hj
    simp only [h1, Option.getD_some]
  · intro i x hx j c hj
    obtain ⟨u, h1, h2⟩ := h i x hx j c hj
    simp only [h1, Option.getD_some]
    exact h2
def RepO (g : G) (w : World) (κ : Key) (T : Nat) (xs : List (Dn T)) (v : Value) : Prop :=
  ∃ vs : List Value, w.ownsRow 0 T (sz T) v xs.length vs ∧ (∀ b, v.ownBlock = some b → g.own b = some κ) ∧
    ∀ i x, xs[i]? = some x → CellsAt g vs.toArray (i * sz T) (cells T x)
def RepM (g : G) (w : World) (κ : Key) (U : Nat) (es : List (ByteArray × Dn U)) (v : Value) : Prop :=
  ∃ (r : Nat) (ms : Array MapEntry) (ck : Nat), v = .map (some r) ∧ g.own r = some κ ∧ w.heap[r]? = some (.map ms ck) ∧ ms.size = es.length ∧
    ∀ (i : Nat) (e : ByteArray × Dn U), es[i]? = some e → ∃ m : MapEntry, ms[i]? = some m ∧ m.key = Value.string e.1 ∧ ∃ c, cells U e.2 = [c] ∧ RepF g c m.val
def RepC (g : G) (w : World) (κ : Key) : PV → Value → Prop
  | .ol T xs, v => RepO g w κ T xs v
  | .mp U es, v => RepM g w κ U es v
  | .gone, _ => True
  | p, v => RepF g p v
def RepV (g : G) (w : World) (κ : Key) : PV → Value → Prop
  | .st cs, v => ∃ A : Array Value, v = .agg A ∧ A.size = cs.length ∧ CellsAt g A 0 cs
  | .ad (.loc t) off, v => v = .pointer (some ⟨g.lb t, off, none⟩)
  | p, v => RepC g w κ p v
def RepE (g : G) (w : World) (κ : Nat → Key) : PV → Value → Prop
  | .st cs, v => ∃ A : Array Value, v = .agg A ∧ A.size = cs.length ∧ ∀ j c, cs[j]? = some c → ∃ u, A[j]? = some u ∧ RepC g w (κ j) c u
  | p, v => RepV g w (κ 0) p v
def PV.ks : PV → List PV
  | .st cs => cs
  | p => [bif isOl p then p else .gone]
def PV.keys : PV → List PV
  | .st cs => cs
  | .tup vs => vs.flatMap PV.ks
  | p => [bif isOl p then p else .gone]
def offs : List PV → Nat → Nat
  | p :: r, i + 1 => p.ks.length + offs r i
  | _, _ => 0
theorem keys_at : ∀ (vs : List PV) (i : Nat) {p : PV} {j : Nat} {c : PV}, vs[i]? = some p → p.ks[j]? = some c → (vs.flatMap PV.ks)[offs vs i + j]? = some c := by
  intro vs
  induction vs with
  | nil => intro i p j c hi; simp at hi
  | cons q r ih =>
    intro i p j c hi hj
    rw [List.flatMap_cons]
    cases i with
    | zero =>
      simp only [List.getElem?_cons_zero, Option.some.injEq] at hi
      subst hi
      simp only [offs, Nat.zero_add]
      rw [List.getElem?_append_left (List.getElem?_eq_some_iff.1 hj).1]; exact hj
    | succ i =>
      simp only [List.getElem?_cons_succ] at hi
      simp only [offs]
      rw [Nat.add_assoc, List.getElem?_append_right (by omega), Nat.add_sub_cancel_left]
      exact ih i hi hj
theorem keys_of : ∀ (vs : List PV) (n : Nat) {c : PV}, (vs.flatMap PV.ks)[n]? = some c → ∃ i p j, vs[i]? = some p ∧ p.ks[j]? = some c ∧ n = offs vs i + j := by
  intro vs
  induction vs with
  | nil => intro n c h; simp at h
  | cons q r ih =>
    intro n c h
    rw [List.flatMap_cons] at h
    by_cases hlt : n < q.ks.length
    · rw [List.getElem?_append_left hlt] at h
      exact ⟨0, q, n, rfl, h, by simp [offs]⟩
    · rw [List.getElem?_append_right (by omega)] at h
      obtain ⟨i, p, j, h1, h2, h3⟩ := ih _ h
      exact ⟨i + 1, p, j, h1, h2, by simp only [offs]; omega⟩
def RepT (g : G) (w : World) (κ : Nat → Key) : PV → Value → Prop
  | .tup vs, v => ∃ A : Array Value, v = .tuple A ∧ A.size = vs.length ∧ ∀ i p, vs[i]? = some p → ∃ u, A[i]? = some u ∧ RepE g w (fun j => κ (offs vs i + j)) p u
  | .st cs, v => ∃ A : Array Value, v = .agg A ∧ A.size = cs.length ∧ ∀ j c, cs[j]? = some c → ∃ u, A[j]? = some u ∧ RepC g w (κ j) c u
  | p, v => RepV g w (κ 0) p v
def RepK (g : G) (w : World) (κ : Nat → Key) (cs : List PV) (C : Array Value) : Prop :=
  C.size = cs.length ∧ ∀ j c, cs[j]? = some c → ∃ u, C[j]? = some u ∧ RepC g w (κ j) c u
structure GlobOk (g : G) : Prop where
  is : ∀ (n T : Nat) (x : Dn T), glob n = some ⟨T, x⟩ → ∃ C, g.fz n = some C ∧ C.size = (cells T x).length ∧ CellsAt g C 0 (cells T x)
  any : ∀ (n : Nat) (k : IntKind), gany n = some k → ∃ C m, g.fz n = some C ∧ C[0]? = some (.int k m)
theorem gl_mono {g g' : G} (h : Grow g g') (hg : GlobOk g) : GlobOk g' := ⟨fun n T x hn => let ⟨C, h1, h3, h2⟩ := hg.is n T x hn; ⟨C, h.fz n C h1, h3, h2.mono h⟩, fun n k hn => let ⟨C, m, h1, h2⟩ := hg.any n k hn; ⟨C, m, h.fz n C h1, h2⟩⟩
structure WF (g : G) (w : World) : Prop where
  gl : GlobOk g
  own : ∀ b κ, g.own b = some κ → b < w.heap.size
  fz : ∀ b C, g.fz b = some C → g.own b = none ∧ w.heap[b]? = some (.cells C (g.fe b).1 (g.fe b).2)
  ob : ∀ b b' j, g.own b = some (.ob b' j) → b' < w.heap.size
  ol : ∀ i, i < g.no → g.oa i < w.heap.size
  inj : ∀ i j, i < g.no → j < g.no → g.oa i = g.oa j → i = j
  oe : ∀ i, i < g.no → g.own (g.oa i) = some .obj ∧ ∃ C fr, w.heap[g.oa i]? = some (.cells C (g.fe (g.oa i)).1 fr)
def RowTy (w w' : World) : Prop := ∀ (b : Nat) (C : Array Value) (E : TypeId) (fr : Nat × Nat), w.heap[b]? = some (Obj.cells C E fr) → ∃ C' fr', w'.heap[b]? = some (Obj.cells C' E fr')
theorem RowTy.of_same {w w' : World} (h : ∀ b, b < w.heap.size → w'.heap[b]? = w.heap[b]?) : RowTy w w' := fun b C E fr hb => ⟨C, fr, (h b (Array.getElem?_eq_some_iff.1 hb).1).trans hb⟩
theorem WF.oe_row {g : G} {w w' : World} (h : WF g w) (hw : RowTy w w') : ∀ i, i < g.no → g.own (g.oa i) = some .obj ∧ ∃ C fr, w'.heap[g.oa i]? = some (.cells C (g.fe (g.oa i)).1 fr) := fun i hi => by
  obtain ⟨h0, C, fr, h1⟩ := h.oe i hi
  exact ⟨h0, hw _ _ _ _ h1⟩
def G.addr (g : G) : Base → Nat
  | .loc t => g.lb t
  | .obj i => g.oa i
def hdr (g : G) (a : Act) (w : World) : Src → Option Value
  | .var u => a.tmps[u]?
  | .cell b o => w.cell? ⟨g.addr b, o, none⟩
  | .vo i => g.va i
def RepP (g : G) (w : World) (T : Nat) (xs : List (Dn T)) (v : Value) : Prop :=
  (xs = [] ∧ v = .slice none 0 0) ∨ ∃ b off cap C E, v = .slice (some ⟨b, off, none⟩) xs.length cap ∧ xs.length ≤ cap ∧ w.heap[b]? = some (.cells C E (0, 0)) ∧ (∃ κ, g.own b = some κ ∧ κ.cell) ∧
    ∀ i x, xs[i]? = some x → CellsAt g C (off + i * sz T) (cells T x)
def RepR (S : St) (g : G) (a : Act) (w : World) (v : Value) : RV → Prop
  | .pk T xs src => RepP g w T xs v ∧ ∀ s, src = some s → S.at_ s = some (.ol T xs) ∧ hdr g a w s = some v
  | .el s T i off => ∃ (xs : List (Dn T)) (b len cap : Nat), S.at_ s = some (.ol T xs) ∧ hdr g a w s = some (.slice (some ⟨b, 0, none⟩) len cap) ∧ i < xs.length ∧
      v = .pointer (some ⟨b, i * sz T + off, none⟩)
  | .sl s T lo hi => ∃ xs : List (Dn T), S.at_ s = some (.ol T xs) ∧ lo ≤ hi ∧ hi ≤ xs.length ∧
      ((lo = hi ∧ ∃ ao cap, v = .slice ao 0 cap) ∨ (lo < hi ∧ ∃ b len cap cap', hdr g a w s = some (.slice (some ⟨b, 0, none⟩) len cap) ∧ v = .slice (some ⟨b, lo * sz T, none⟩) (hi - lo) cap'))
  | .mr s => ∃ (U : Nat) (es : List (ByteArray × Dn U)), S.at_ s = some (.mp U es) ∧ hdr g a w s = some v
  | .dead => True
def NoOk : Option Nat → Nat → Nat → Prop
  | none, m, n => m = n
  | some k, m, n => m = 0 ∧ n = k
structure Rel (d nt : Nat) (e : Option Nat) (S : St) (g : G) (a : Act) (w : World) : Prop where
  sz : a.tmps.size = nt
  tm : ∀ t p, lk S.tm t = some p → t < nt ∧ RepT g w (Key.tm d t) p (a.tmps.getD t undef)
  lc : ∀ t cs, lk S.lc t = some cs → g.own (g.lb t) = some (.loc d t) ∧ ∃ C E, w.heap[g.lb t]? = some (.cells C E (0, 0)) ∧ RepK g w (Key.lc d t) cs C
  mm : ∀ i cs, S.mm[i]? = some cs → i < g.no ∧ g.own (g.oa i) = some .obj ∧ ∃ C E, w.heap[g.oa i]? = some (.cells C E (0, 0)) ∧ RepK g w (Key.ob (g.oa i)) cs C
  no : NoOk e S.mm.length g.no
  rt : ∀ t r, lk S.rt t = some r → t < nt ∧ RepR S g a w (a.tmps.getD t undef) r
  wf : WF g w
  df : a.defers = []
  vl : ∀ i p, S.vl[i]? = some p → ∃ v, g.va i = some v ∧ RepC g w (Key.vo d i) p v
structure Keep (X : Nat → Key → Prop) (g : G) (w : World) (g' : G) (w' : World) : Prop where
  gr : Grow g g'
  lb : g'.lb = g.lb
  own : ∀ b κ, g.own b = some κ → ¬ X b κ → g'.own b = some κ ∧ w'.heap[b]? = w.heap[b]?
theorem ownsRow_block {w w' : World} {base E size n : Nat} {v : Value} {xs : List Value} (h : w.ownsRow base E size v n xs) (hb : ∀ b, v.ownBlock = some b → w'.heap[b]? = w.heap[b]?) :
    w'.ownsRow base E size v n xs := by
  refine ⟨h.1, ?_⟩
  rcases h.2 with hn | ⟨g, cap, cur, rfl, hb', hg, rest⟩
  · exact .inl hn
  · exact .inr ⟨g, cap, cur, rfl, hb', by rw [hb g rfl]; exact hg, rest⟩
variable {X : Nat → Key → Prop} {g g' : G} {w w' : World}
theorem RepO.keep (h : Keep X g w g' w') {κ : Key} (hx : ∀ b, g.own b = some κ → ¬ X b κ) {T : Nat} {xs : List (Dn T)} {v : Value} (hp : RepO g w κ T xs v) : RepO g' w' κ T xs v := by
  obtain ⟨vs, h1, h2, h3⟩ := hp
  exact ⟨vs, ownsRow_block h1 fun b hb => (h.own b κ (h2 b hb) (hx b (h2 b hb))).2, fun b hb => (h.own b κ (h2 b hb) (hx b (h2 b hb))).1, fun i x hi => (h3 i x hi).mono h.gr⟩
theorem RepM.keep (h : Keep X g w g' w') {κ : Key} (hx : ∀ b, g.own b = some κ → ¬ X b κ) {U : Nat} {es : List (ByteArray × Dn U)} {v : Value} (hp : RepM g w κ U es v) : RepM g' w' κ U es v := by
  obtain ⟨r, ms, ck, h1, h2, h3, h4, h5⟩ := hp
  have h6 := h.own r κ h2 (hx r h2)
  exact ⟨r, ms, ck, h1, h6.1, h6.2.trans h3, h4, fun i e hi => let ⟨m, a1, a2, c, a3, a4⟩ := h5 i e hi; ⟨m, a1, a2, c, a3, a4.mono h.gr⟩⟩
theorem RepC.keep (h : Keep X g w g' w') {κ : Key} {p : PV} {v : Value} (hx : isOl p = true → ∀ b, g.own b = some κ → ¬ X b κ) (hp : RepC g w κ p v) : RepC g' w' κ p v := by
  cases p with
  | ol T xs => exact RepO.keep h (hx rfl) hp
  | mp U es => exact RepM.keep h (hx rfl) hp
  | gone => trivial
  | _ => exact RepF.mono h.gr hp
theorem RepV.keep (h : Keep X g w g' w') {κ : Key} {p : PV} {v : Value} (hx : isOl p = true → ∀ b, g.own b = some κ → ¬ X b κ) (hp : RepV g w κ p v) : RepV g' w' κ p v := by
  cases p with
  | st cs => obtain ⟨A, h1, h2, h3⟩ := hp; exact ⟨A, h1, h2, h3.mono h.gr⟩
  | ad b off => cases b with
    | loc t => simp only [RepV] at hp ⊢; rw [h.lb]; exact hp
    | obj i => exact RepC.keep h hx hp
  | gone => trivial
  | ol T xs => exact RepC.keep (p := .ol T xs) h hx hp
  | mp U es => exact RepC.keep (p := .mp U es) h hx hp
  | _ => exact RepF.mono h.gr hp
def olT (p : PV) (i : Nat) : Bool :=
  match p.keys[i]? with
  | some c => isOl c
  | none => false
theorem olT_gone (i : Nat) : olT .gone i = false := by cases i <;> rfl
theorem RepE.keep (h : Keep X g w g' w') {κ : Nat → Key} {p : PV} {v : Value} (hx : ∀ j c, p.ks[j]? = some c → isOl c = true → ∀ b, g.own b = some (κ j) → ¬ X b (κ j)) (hp : RepE g w κ p v) : RepE g' w' κ p v := by
  cases p with
  | st cs =>
    obtain ⟨A, h1, h2, h3⟩ := hp
    refine ⟨A, h1, h2, fun i p hi => ?_⟩
    obtain ⟨u, h4, h5⟩ := h3 i p hi
    exact ⟨u, h4, h5.keep h fun ho => hx i p hi ho⟩
  | ol T xs => exact RepV.keep (p := .ol T xs) h (fun _ => hx 0 (.ol T xs) rfl rfl) hp
  | mp U es => exact RepV.keep (p := .mp U es) h (fun _ => hx 0 (.mp U es) rfl rfl) hp
  | ad b off => exact RepV.keep (κ := κ 0) (p := .ad b off) h (fun ho => by simp [isOl, isLs] at ho) hp
  | gone => trivial
  | tup vs => exact (show False by have h : RepF g (.tup vs) v := hp; cases h).elim
  | _ => exact RepF.mono h.gr hp
theorem RepT.keep (h : Keep X g w g' w') {κ : Nat → Key} {p : PV} {v : Value} (hx : ∀ i, olT p i = true → ∀ b, g.own b = some (κ i) → ¬ X b (κ i)) (hp : RepT g w κ p v) : RepT g' w' κ p v := by
  cases p with
  | tup vs =>
    obtain ⟨A, h1, h2, h3⟩ := hp
    refine ⟨A, h1, h2, fun i p hi => ?_⟩
    obtain ⟨u, h4, h5⟩ := h3 i p hi
    exact ⟨u, h4, h5.keep h fun j c hj ho => hx _ (by simp only [olT, PV.keys, keys_at vs i hi hj]; exact ho)⟩
  | ol T xs => exact RepV.keep (p := .ol T xs) h (fun _ => hx 0 rfl) hp
  | mp U es => exact RepV.keep (p := .mp U es) h (fun _ => hx 0 rfl) hp
  | st cs =>
    obtain ⟨A, h1, h2, h3⟩ := hp
    refine ⟨A, h1, h2, fun i p hi => ?_⟩
    obtain ⟨u, h4, h5⟩ := h3 i p hi
    exact ⟨u, h4, h5.keep h fun ho => hx i (by simp only [olT, PV.keys, hi]; exact ho)⟩
  | ad b off => exact RepV.keep (κ := κ 0) (p := .ad b off) h (fun ho => by simp [isOl, isLs] at ho) hp
  | gone => trivial
  | _ => exact RepF.mono h.gr hp
theorem RepK.keep (h : Keep X g w g' w') {κ : Nat → Key} {cs : List PV} {C : Array Value} (hx : ∀ j c, cs[j]? = some c → isOl c = true → ∀ b, g.own b = some (κ j) → ¬ X b (κ j)) (hp : RepK g w κ cs C) : RepK g' w' κ cs C :=
  ⟨hp.1, fun j c hj => let ⟨u, h1, h2⟩ := hp.2 j c hj; ⟨u, h1, h2.keep h (hx j c hj)⟩⟩
structure Free (d : Nat) (S : St) (g : G) (κ : Key) : Prop where
  tm : ∀ t p i, κ = .tm d t i → lk S.tm t = some p → olT p i = false
  lc : ∀ t cs j c, κ = .lc d t j → lk S.lc t = some cs → cs[j]? = some c → isOl c = false
  mm : ∀ k cs j c, κ = .ob (g.oa k) j → S.mm[k]? = some cs → cs[j]? = some c → isOl c = false
  vl : ∀ i p, κ = .vo d i → S.vl[i]? = some p → isOl p = false
theorem RepP.keep (h : Keep X g w g' w') {T : Nat} {xs : List (Dn T)} {v : Value} (hx : ∀ b κ, v.ownBlock = some b → g.own b = some κ → ¬ X b κ) (hp : RepP g w T xs v) : RepP g' w' T xs v := by
  rcases hp with h0 | ⟨b, off, cap, C, E, h1, h2, h3, ⟨κ, h4, h5⟩, h6⟩
  · exact .inl h0
  · subst h1
    have hk := h.own b κ h4 (hx b κ rfl h4)
    exact .inr ⟨b, off, cap, C, E, rfl, h2, hk.2.trans h3, ⟨κ, hk.1, h5⟩, fun i x hi => (h6 i x hi).mono h.gr⟩
theorem cell_heap {a : Addr} (h : w'.heap[a.block]? = w.heap[a.block]?) : w'.cell? a = w.cell? a := by simp [World.cell?, h]
variable {d nt : Nat} {e : Option Nat} {S : St} {a : Act}
def bkey (d : Nat) : Base → Key
  | .loc t => .loc d t
  | .obj _ => .obj
def ckey (d : Nat) (g : G) : Base → Nat → Key
  | .loc t, j => .lc d t j
  | .obj i, j => .ob (g.oa i) j
theorem Rel.cont (h : Rel d nt e S g a w) {b : Base} {cs : List PV} (hb : S.cont b = some cs) :
    g.own (g.addr b) = some (bkey d b) ∧ ∃ C E, w.heap[g.addr b]? = some (.cells C E (0, 0)) ∧ RepK g w (ckey d g b) cs C := by
  cases b with
  | loc t => exact h.lc t cs hb
  | obj i => exact (h.mm i cs hb).2
theorem bkey_cell (d : Nat) (b : Base) : ¬ (bkey d b).cell := by cases b <;> simp [bkey, Key.cell]
theorem hdr_keep (h : Rel d nt e S g a w) (hk : Keep X g w g' w') (hX : ∀ b κ, X b κ → κ.cell) {s : Src} {p : PV} (hs : S.at_ s = some p) : hdr g' a w' s = hdr g a w s := by
  cases s with
  | var u => rfl
  | vo i => exact congrFun hk.gr.va i
  | cell b o =>
    simp only [hdr]
    simp only [St.at_] at hs
    cases hb : S.cont b with
    | none => simp [hb] at hs
    | some cs =>
      have h1 := h.cont hb
      have h2 := hk.own _ _ h1.1 fun hx => bkey_cell d b (hX _ _ hx)
      have h3 : g'.addr b = g.addr b := by
        cases b with
        | loc t => simp only [G.addr, hk.lb]
        | obj i => exact hk.gr.oa i (h.mm i cs hb).1
      rw [h3]
      exact cell_heap h2.2
theorem Rel.keep (h : Rel d nt e S g a w) (hk : Keep X g w g' w') (hno : True → g'.no = g.no) (hc : ∀ b κ, X b κ → κ.cell ∧ (g.own b = some κ → Free d S g κ))
    (hr : S.rt = [] ∨ ∀ b κ, g.own b = some κ → κ.cell → w'.heap[b]? = w.heap[b]? ∧ ∃ κ', g'.own b = some κ' ∧ κ'.cell) (hw : WF g' w') : Rel d nt e S g' a w' := by
  refine ⟨h.sz, fun t p hp => ?_, fun t cs ht => ?_, fun i cs hi => ?_, by rw [hno trivial]; exact h.no, fun t r hr' => ?_, hw, h.df, fun i p hi => ?_⟩
  · obtain ⟨h1, h2⟩ := h.tm t p hp
    exact ⟨h1, h2.keep hk fun i hi b hb hx => by have := ((hc _ _ hx).2 hb).tm t p i rfl hp; simp [this] at hi⟩
  · obtain ⟨h1, C, E, h2, h3⟩ := h.lc t cs ht
    have h4 := hk.own _ _ h1 fun hx => (hc _ _ hx).1
    rw [hk.lb]
    exact ⟨h4.1, C, E, h4.2.trans h2, h3.keep hk fun j c hj hi b hb hx => by have := ((hc _ _ hx).2 hb).lc t cs j c rfl ht hj; simp [this] at hi⟩
  · obtain ⟨h0, h1, C, E, h2, h3⟩ := h.mm i cs hi
    have h4 := hk.own _ _ h1 fun hx => (hc _ _ hx).1
    rw [hk.gr.oa i h0]
    exact ⟨Nat.lt_of_lt_of_le h0 hk.gr.no, h4.1, C, E, h4.2.trans h2, h3.keep hk fun j c hj hi' b hb hx => by have := ((hc _ _ hx).2 hb).mm i cs j c rfl hi hj; simp [this] at hi'⟩
  · rcases hr with hr | hX
    · rw [hr] at hr'; simp [lk] at hr'
    · obtain ⟨h1, h2⟩ := h.rt t r hr'
      refine ⟨h1, ?_⟩
      have hh : ∀ {s : Src} {p : PV}, S.at_ s = some p → hdr g' a w' s = hdr g a w s := fun hs => hdr_keep h hk (fun b κ hx => (hc b κ hx).1) hs
      cases r with
      | pk T xs src =>
        refine ⟨?_, fun s hs => ?_⟩
        · rcases h2.1 with h0 | ⟨b, off, cap, C, E, h3, h4, h5, ⟨κ, h6, h7⟩, h8⟩
          · exact .inl h0
          · have h9 := hX b κ h6 h7
            exact .inr ⟨b, off, cap, C, E, h3, h4, h9.1.trans h5, h9.2, fun i x hi => (h8 i x hi).mono hk.gr⟩
        · obtain ⟨h5, h6⟩ := h2.2 s hs
          exact ⟨h5, (hh h5).trans h6⟩
      | el s T i off =>
        obtain ⟨xs, b, len, cap, h5, h6, h7⟩ := h2
        exact ⟨xs, b, len, cap, h5, (hh h5).trans h6, h7⟩
      | sl s T lo hi =>
        obtain ⟨xs, q8, q9, q10, q11⟩ := h2
        exact ⟨xs, q8, q9, q10, q11.imp id fun ⟨q, b, len, cap, cap', q12, q13⟩ => ⟨q, b, len, cap, cap', (hh q8).trans q12, q13⟩⟩
      | mr s =>
        obtain ⟨U, es, h5, h6⟩ := h2
        exact ⟨U, es, h5, (hh h5).trans h6⟩
      | dead => trivial
  · obtain ⟨v, h1, h2⟩ := h.vl i p hi
    exact ⟨v, by rw [hk.gr.va]; exact h1, h2.keep hk fun ho b hb hx => by have := ((hc _ _ hx).2 hb).vl i p rfl hi; simp [this] at ho⟩
theorem lk_cons {α : Type} (l : List (Nat × α)) (u t : Nat) (x : α) : lk ((u, x) :: l) t = if u = t then some x else lk l t := by
  simp only [lk]
  by_cases h : u = t
  · simp [h]
  · have : Nat.beq u t = false := by
      cases hb : Nat.beq u t with
      | true => exact absurd (Nat.eq_of_beq_eq_true hb) h
      | false => rfl
    simp [this, h]
theorem beq_true {u t : Nat} (h : Nat.beq u t = true) : u = t := Nat.eq_of_beq_eq_true h
theorem beq_false {u t : Nat} (h : Nat.beq u t = false) : u ≠ t := Nat.ne_of_beq_eq_false h
theorem RV.on_false {t : Nat} {r : RV} (h : r.on t = false) : ∀ s, r.src = some s → s.isVar t = false := by
  intro s hs
  simpa [RV.on, hs] using h
theorem lk_dropR {t : Nat} {l : List (Nat × RV)} {u : Nat} {r : RV} (h : lk (dropR t l) u = some r) :
    r = .dead ∨ (u ≠ t ∧ (∀ s, r.src = some s → s.isVar t = false)) ∧ lk l u = some r := by
  induction l with
  | nil => simp [dropR, lk] at h
  | cons x l ih =>
    obtain ⟨v, q⟩ := x
    simp only [dropR] at h
    rw [lk_cons] at h ⊢
    by_cases hv : v = u
    · subst hv
      simp only [if_true, Option.some.injEq] at h ⊢
      cases hc : (Nat.beq v t || q.on t) with
      | true => simp only [hc, cond_true] at h; exact .inl h.symm
      | false =>
        simp only [hc, cond_false] at h
        subst h
        simp only [Bool.or_eq_false_iff] at hc
        exact .inr ⟨⟨beq_false hc.1, RV.on_false hc.2⟩, rfl⟩
    · simp only [hv, if_false] at h ⊢
      exact ih h
theorem Rel.setT' {a' : Act} (h : Rel d nt e S g a w) {t : Nat} {p : PV} (ht : t < nt) (hs : a'.tmps.size = a.tmps.size) (hd : a'.defers = a.defers) (ha : ∀ u, u ≠ t → a'.tmps[u]? = a.tmps[u]?)
    (hv : RepT g w (Key.tm d t) p (a'.tmps.getD t undef)) : Rel d nt e (S.setT t p) g a' w := by
  have hg : ∀ u, u ≠ t → a'.tmps.getD u undef = a.tmps.getD u undef := fun u hu => by
    simp only [Array.getD_eq_getD_getElem?, ha u hu]
  refine ⟨hs.trans h.sz, fun u q hq => ?_, h.lc, h.mm, h.no, fun u r hr => ?_, h.wf, hd.trans h.df, h.vl⟩
  · simp only [St.setT] at hq
    rw [lk_cons] at hq
    by_cases hu : t = u
    · subst hu
      simp only [if_true, Option.some.injEq] at hq
      subst hq
      exact ⟨ht, hv⟩
    · simp only [hu, if_false] at hq
      rw [hg u (Ne.symm hu)]
      exact h.tm u q hq
  · simp only [St.setT] at hr
    by_cases hdd : r = .dead
    · subst hdd
      refine ⟨?_, trivial⟩
      rcases Nat.lt_or_ge u nt with hu | hu
      · exact hu
      · exfalso
        have : ∀ l : List (Nat × RV), (∀ v, nt ≤ v → lk l v = none) → ∀ v, nt ≤ v → lk (dropR t l) v = none := by
          intro l
          induction l with
          | nil => intro _ v _; rfl
          | cons x l ih =>
            obtain ⟨y, q⟩ := x
            intro hl v hv
            simp only [dropR]
            rw [lk_cons]
            have h1 := hl v hv
            rw [lk_cons] at h1
            by_cases hy : y = v
            · simp [hy] at h1
            · simp only [hy, if_false] at h1 ⊢
              exact ih (fun v hv => by have h2 := hl v hv; rw [lk_cons] at h2; by_cases hy : y = v <;> simp [hy] at h2; exact h2) v hv
        have h2 := this S.rt (fun v hv => by
          cases hl : lk S.rt v with
          | none => rfl
          | some q => have := (h.rt v q hl).1; omega) u hu
        rw [h2] at hr
        simp at hr
    · rcases lk_dropR hr with h1 | ⟨⟨h1, h2⟩, h3⟩
      · exact absurd h1 hdd
      · obtain ⟨h4, h5⟩ := h.rt u r h3
        refine ⟨h4, ?_⟩
        rw [hg u h1]
        have hat : ∀ s, r.src = some s → (S.setT t p).at_ s = S.at_ s ∧ hdr g a' w s = hdr g a w s := by
          intro s hs
          have h6 := h2 s hs
          cases s with
          | var v =>
            have h7 : v ≠ t := beq_false h6
            refine ⟨?_, ha v h7⟩
            simp only [St.at_, St.setT]
            rw [lk_cons, if_neg (Ne.symm h7)]
          | cell b o => exact ⟨by cases b <;> rfl, rfl⟩
          | vo i => exact ⟨rfl, rfl⟩
        cases r with
        | pk T xs src =>
          refine ⟨h5.1, fun s hs => ?_⟩
          have h7 := hat s hs
          rw [h7.1, h7.2]
          exact h5.2 s hs
        | el s T i off =>
          have h7 := hat s rfl
          obtain ⟨xs, b, len, cap, h8, h9, h10⟩ := h5
          exact ⟨xs, b, len, cap, h7.1.trans h8, h7.2.trans h9, h10⟩
        | sl s T lo hi =>
          have h7 := hat s rfl
          obtain ⟨xs, q8, q9, q10, q11⟩ := h5
          exact ⟨xs, h7.1.trans q8, q9, q10, q11.imp id fun ⟨q, b, len, cap, cap', q12, q13⟩ => ⟨q, b, len, cap, cap', h7.2.trans q12, q13⟩⟩
        | mr s =>
          have h7 := hat s rfl
          obtain ⟨U, es, h8, h9⟩ := h5
          exact ⟨U, es, h7.1.trans h8, h7.2.trans h9⟩
        | dead => trivial
theorem put_get (a : Act) (t : Nat) (v : Value) (ht : t < a.tmps.size) : (a.put (some t) v).tmps.getD t undef = v := by
  simp [Act.put, Array.getD_eq_getD_getElem?, ht]
theorem put_ne (a : Act) (t : Nat) (v : Value) {u : Nat} (h : u ≠ t) : (a.put (some t) v).tmps[u]? = a.tmps[u]? := by
  simp [Act.put, Array.getElem?_setIfInBounds, Ne.symm h]
theorem Rel.setT (h : Rel d nt e S g a w) {t : Nat} {p : PV} {v : Value} (ht : t < nt) (hv : RepT g w (Key.tm d t) p v) : Rel d nt e (S.setT t p) g (a.put (some t) v) w :=
  h.setT' ht (by simp [Act.put]) (by simp [Act.put]) (fun u hu => put_ne a t v hu) (by rw [put_get a t v (by rw [h.sz]; exact ht)]; exact hv)
theorem Rel.gone (h : Rel d nt e S g a w) {t : Nat} (ht : t < nt) : Rel d nt e (S.setT t .gone) g a w := h.setT' ht rfl rfl (fun _ _ => rfl) trivial
theorem Rel.noR (h : Rel d nt e S g a w) : Rel d nt e S.noR g a w := ⟨h.sz, h.tm, h.lc, h.mm, h.no, fun t r hr => by simp [St.noR, lk] at hr, h.wf, h.df, h.vl⟩
end
end Go.KM
