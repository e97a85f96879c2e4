/- What the abstract machine's values stand for in Go's memory, and what keeps it so. Conditions: none. -/
import Derived.Test.YtojkcmefnmcpiaaGreatDoorKmA
import Derived.Laws.AppendOwn
import Derived.Laws.Sem
import Derived.Laws.Cells
import Derived.Laws.Rows
import Derived.Laws.Entries
import GoSem.Dispatch
import Derived.Laws.Tables
namespace Go.KM
open Go
open Fam (Dn dflt)
open Enc (cells sz mkE glob gany u8)
set_option autoImplicit false
set_option linter.unusedVariables false
set_option linter.unusedSimpArgs false
set_option linter.unusedSectionVars false
section
inductive Key where
 | loc (d t : Nat)
 | tm (d t i : Nat)
 | lc (d t j : Nat)
 | obj
 | ob (b j : Nat)
 | ar (d i : Nat)
 | rt (d i : Nat)
 | vo (d i : Nat)
def Key.depth : Key → Option Nat
 | .loc d _ | .tm d _ _ | .lc d _ _ | .ar d _ | .rt d _ | .vo d _ => some d
 | _ => none
def Key.cell : Key → Prop
 | .loc _ _ | .obj => False
 | _ => True
structure G where
 fz : Nat → Option (Array Value)
 own : Nat → Option Key
 no : Nat
 oa : Nat → Nat
 lb : Nat → Nat
 fe : Nat → TypeId × (Nat × Nat)
 /-- headers of lists that are lent -/
 va : Nat → Option Value
structure Grow (g g' : G) : Prop where
 fz : ∀ b C, g.fz b = some C → g'.fz b = some C
 no : g.no ≤ g'.no
 oa : ∀ i, i < g.no → g'.oa i = g.oa i
 fe : ∀ b C, g.fz b = some C → g'.fe b = g.fe b
 va : g'.va = g.va
 oe : ∀ i, i < g.no → (g'.fe (g.oa i)).1 = (g.fe (g.oa i)).1
theorem Grow.refl (g : G) : Grow g g := ⟨fun _ _ h => h, Nat.le_refl _, fun _ _ => rfl, fun _ _ _ => rfl, rfl, fun _ _ => rfl⟩
theorem Grow.trans {g g1 g2 : G} (h : Grow g g1) (h' : Grow g1 g2) : Grow g g2 :=
 ⟨fun b C hb => h'.fz b C (h.fz b C hb), Nat.le_trans h.no h'.no, fun i hi => (h'.oa i (Nat.lt_of_lt_of_le hi h.no)).trans (h.oa i hi), fun b C hb => (h'.fe b C (h.fz b C hb)).trans (h.fe b C hb), h'.va.trans h.va, fun i hi => by
  have h1 := h'.oe i (Nat.lt_of_lt_of_le hi h.no)
  rw [h.oa i hi] at h1
  exact h1.trans (h.oe i hi)⟩
section
variable [Enc]
inductive RepF (g : G) : PV → Value → Prop
 | b (x : Bool) : RepF g (.b x) (.bool x)
 | i (k : IntKind) (n : Int) : RepF g (.i k n) (.int k n)
 | s (x : ByteArray) : RepF g (.s x) (.string x)
 | nl : RepF g .nl (.slice none 0 0)
 | np : RepF g .np (.pointer none)
 | ad (i off : Nat) (h : i < g.no) : RepF g (.ad (.obj i) off) (.pointer (some ⟨g.oa i, off, none⟩))
 | fl0 (T : Nat) : RepF g (.fl T []) (.slice none 0 0)
 | ifcN : RepF g (.ifc true) .nilIface
 | vo (i : Nat) (A : Option Addr) (n c : Nat) (h : g.va i = some (.slice A n c)) : RepF g (.vo i) (.slice A n c)
 | ifcS (t : TypeId) (x : Value) : RepF g (.ifc false) (.iface t x)
 | fa (T : Nat) (x : Dn T) (off bk o : Nat) (C : Array Value) (V : Nat → Value) (hf : g.fz bk = some C)
   (hv : ∀ j c, (cells T x)[j]? = some c → C[o + j]? = some (V j)) (hr : ∀ j c, (cells T x)[j]? = some c → RepF g c (V j)) : RepF g (.fa T x off) (.pointer (some ⟨bk, o + off, none⟩))
 | fpN (T : Nat) : RepF g (.fp T none) (.pointer none)
 | fpS (T : Nat) (x : Dn T) (v : Value) (h : RepF g (.fa T x 0) v) : RepF g (.fp T (some x)) v
 | zf : RepF g (.zo 0) .nilFunc
 | zm : RepF g (.zo 1) (.map none)
 | slf (T i : Nat) (b : Bool) (hT : (g.fe (g.oa i)).1 = T) (h : i < g.no) : RepF g (.slf T i b) (.pointer (if b then some ⟨g.oa i, 0, none⟩ else none))
 | foN (T : Nat) : RepF g (.fo T none) (.slice none 0 0)
 | foS (T : Nat) (xs : List (Dn T)) (v : Value) (h : RepF g (.fl T xs) v) : RepF g (.fo T (some xs)) v
 | clo (f : Nat) (caps : List (Nat × Nat)) (h : ∀ x ∈ caps, x.1 < g.no) : RepF g (.clo f caps) (.func (.func f) #[] (caps.map fun x => Value.pointer (some ⟨g.oa x.1, x.2, none⟩)).toArray)
 | fl (T : Nat) (xs : List (Dn T)) (A : Addr) (off cap : Nat) (C : Array Value) (V : Nat → Nat → Value) (hf : xs ≠ [] → A = ⟨A.block, off, none⟩ ∧ g.fz A.block = some C) (hc : xs.length ≤ cap)
   (hv : ∀ i x, xs[i]? = some x → ∀ j c, (cells T x)[j]? = some c → C[off + i * sz T + j]? = some (V i j))
   (hr : ∀ i x, xs[i]? = some x → ∀ j c, (cells T x)[j]? = some c → RepF g c (V i j)) :
   RepF g (.fl T xs) (.slice (some A) xs.length cap)
theorem RepF.mono {g g' : G} (h : Grow g g') {p : PV} {v : Value} (hp : RepF g p v) : RepF g' p v := by
 induction hp with
 | b x => exact .b x
 | i k n => exact .i k n
 | s x => exact .s x
 | nl => exact .nl
 | np => exact .np
 | ad i off hi => rw [← h.oa i hi]; exact .ad i off (Nat.lt_of_lt_of_le hi h.no)
 | fl0 T => exact .fl0 T
 | ifcN => exact .ifcN
 | vo i A n c hv => exact .vo i A n c (by rw [h.va]; exact hv)
 | ifcS t x => exact .ifcS t x
 | fa T x off bk o C V hf hv _ ih => exact .fa T x off bk o C V (h.fz _ _ hf) hv ih
 | fpN T => exact .fpN T
 | fpS T x v _ ih => exact .fpS T x v ih
 | foN T => exact .foN T
 | zf => exact .zf
 | zm => exact .zm
 | slf T i b hT hi => rw [← h.oa i hi]; exact .slf T i b (by rw [h.oa i hi]; exact (h.oe i hi).trans hT) (Nat.lt_of_lt_of_le hi h.no)
 | foS T xs v _ ih => exact .foS T xs v ih
 | clo f caps hc =>
  have : (caps.map fun x => Value.pointer (some ⟨g.oa x.1, x.2, none⟩)) = caps.map fun x => Value.pointer (some ⟨g'.oa x.1, x.2, none⟩) := List.map_congr_left fun x hx => by rw [h.oa x.1 (hc x hx)]
  rw [this]
  exact .clo f caps fun x hx => Nat.lt_of_lt_of_le (hc x hx) h.no
 | fl T xs A off cap C V hf hc hv _ ih => exact .fl T xs A off cap C V (fun hx => ⟨(hf hx).1, h.fz _ _ (hf hx).2⟩) hc hv ih
def CellsAt (g : G) (C : Array Value) (o : Nat) (cs : List PV) : Prop :=
 ∀ j c, cs[j]? = some c → ∃ u, C[o + j]? = some u ∧ RepF g c u
theorem CellsAt.mono {g g' : G} {C : Array Value} {o : Nat} {cs : List PV} (h : Grow g g') (hp : CellsAt g C o cs) : CellsAt g' C o cs :=
 fun j c hc => let ⟨u, h1, h2⟩ := hp j c hc; ⟨u, h1, h2.mono h⟩
theorem RepF.fa' {g : G} {T : Nat} {x : Dn T} {off bk o : Nat} {C : Array Value} (hf : g.fz bk = some C) (h : CellsAt g C o (cells T x)) : RepF g (.fa T x off) (.pointer (some ⟨bk, o + off, none⟩)) := by
 refine .fa T x off bk o C (fun j => (C[o + j]?).getD undef) hf ?_ ?_
 ·intro j c hj
  obtain ⟨u, h1, _⟩ := h j c hj
  simp only [h1, Option.getD_some]
 ·intro j c hj
  obtain ⟨u, h1, h2⟩ := h j c hj
  simp only [h1, Option.getD_some]
  exact h2
theorem repF_fa {g : G} {T : Nat} {x : Dn T} {off : Nat} {v : Value} (h : RepF g (.fa T x off) v) : ∃ bk o C, v = .pointer (some ⟨bk, o + off, none⟩) ∧ g.fz bk = some C ∧ CellsAt g C o (cells T x) := by
 cases h with
 | fa _ _ _ bk o C V hf hv hr => exact ⟨bk, o, C, rfl, hf, fun j c hj => ⟨V j, hv j c hj, hr j c hj⟩⟩
theorem RepF.fl' {g : G} {T : Nat} {xs : List (Dn T)} {bk off cap : Nat} {C : Array Value} (hf : xs ≠ [] → g.fz bk = some C) (hc : xs.length ≤ cap)
  (h : ∀ i x, xs[i]? = some x → CellsAt g C (off + i * sz T) (cells T x)) : RepF g (.fl T xs) (.slice (some ⟨bk, off, none⟩) xs.length cap) := by
 refine .fl T xs ⟨bk, off, none⟩ off cap C (fun i j => (C[off + i * sz T + j]?).getD undef) (fun hx => ⟨rfl, hf hx⟩) hc ?_ ?_
 ·intro i x hx j c hj
  obtain ⟨u, h1, _⟩ := h i x hx j c hj
  simp only [h1, Option.getD_some]
 ·intro i x hx j c hj
  obtain ⟨u, h1, h2⟩ := h i x hx j c hj
  simp only [h1, Option.getD_some]
  exact h2
def RepO (g : G) (w : World) (κ : Key) (T : Nat) (xs : List (Dn T)) (v : Value) : Prop :=
 ∃ vs : List Value, w.ownsRow 0 T (sz T) v xs.length vs ∧ (∀ b, v.ownBlock = some b → g.own b = some κ) ∧
  ∀ i x, xs[i]? = some x → CellsAt g vs.toArray (i * sz T) (cells T x)
def KeyIs (U : Nat) (x : ByteArray) (v : Value) : Prop :=
 (Enc.pk U = false ∧ v = .string x) ∨ (Enc.pk U = true ∧ ∃ a b : Int, x = ik a b ∧ v = .agg #[.int .i64 a, .int .i64 b])
def RepM (g : G) (w : World) (κ : Key) (U : Nat) (es : List (ByteArray × Dn U)) (v : Value) : Prop :=
 ∃ (r : Nat) (ms : Array MapEntry) (ck : Nat), v = .map (some r) ∧ g.own r = some κ ∧ w.heap[r]? = some (.map ms ck) ∧ ms.size = es.length ∧
  ∀ (i : Nat) (e : ByteArray × Dn U), es[i]? = some e → ∃ m : MapEntry, ms[i]? = some m ∧ KeyIs U e.1 m.key ∧ ∃ c, cells U e.2 = [c] ∧ RepF g c m.val
def RepC (g : G) (w : World) (κ : Key) : PV → Value → Prop
 | .ol T xs, v => RepO g w κ T xs v
 | .mp U es, v => RepM g w κ U es v
 | .gone, _ => True
 | p, v => RepF g p v
def RepV (g : G) (w : World) (κ : Key) : PV → Value → Prop
 | .st cs, v => ∃ A : Array Value, v = .agg A ∧ A.size = cs.length ∧ CellsAt g A 0 cs
 | .ad (.loc t) off, v => v = .pointer (some ⟨g.lb t, off, none⟩)
 | p, v => RepC g w κ p v
def RepE (g : G) (w : World) (κ : Nat → Key) : PV → Value → Prop
 | .st cs, v => ∃ A : Array Value, v = .agg A ∧ A.size = cs.length ∧ ∀ j c, cs[j]? = some c → ∃ u, A[j]? = some u ∧ RepC g w (κ j) c u
 | p, v => RepV g w (κ 0) p v
def PV.ks : PV → List PV
 | .st cs => cs
 | p => [bif isOl p then p else .gone]
def PV.keys : PV → List PV
 | .st cs => cs
 | .tup vs => vs.flatMap PV.ks
 | p => [bif isOl p then p else .gone]
def offs : List PV → Nat → Nat
 | p :: r, i + 1 => p.ks.length + offs r i
 | _, _ => 0
theorem keys_at : ∀ (vs : List PV) (i : Nat) {p : PV} {j : Nat} {c : PV}, vs[i]? = some p → p.ks[j]? = some c → (vs.flatMap PV.ks)[offs vs i + j]? = some c := by
 intro vs
 induction vs with
 | nil => intro i p j c hi; simp at hi
 | cons q r ih =>
  intro i p j c hi hj
  rw [List.flatMap_cons]
  cases i with
  | zero =>
   simp only [List.getElem?_cons_zero, Option.some.injEq] at hi
   subst hi
   simp only [offs, Nat.zero_add]
   rw [List.getElem?_append_left (List.getElem?_eq_some_iff.1 hj).1]; exact hj
  | succ i =>
   simp only [List.getElem?_cons_succ] at hi
   simp only [offs]
   rw [Nat.add_assoc, List.getElem?_append_right (by omega), Nat.add_sub_cancel_left]
   exact ih i hi hj
theorem keys_of : ∀ (vs : List PV) (n : Nat) {c : PV}, (vs.flatMap PV.ks)[n]? = some c → ∃ i p j, vs[i]? = some p ∧ p.ks[j]? = some c ∧ n = offs vs i + j := by
 intro vs
 induction vs with
 | nil => intro n c h; simp at h
 | cons q r ih =>
  intro n c h
  rw [List.flatMap_cons] at h
  by_cases hlt : n < q.ks.length
  ·rw [List.getElem?_append_left hlt] at h
   exact ⟨0, q, n, rfl, h, by simp [offs]⟩
  ·rw [List.getElem?_append_right (by omega)] at h
   obtain ⟨i, p, j, h1, h2, h3⟩ := ih _ h
   exact ⟨i + 1, p, j, h1, h2, by simp only [offs]; omega⟩
def RepT (g : G) (w : World) (κ : Nat → Key) : PV → Value → Prop
 | .tup vs, v => ∃ A : Array Value, v = .tuple A ∧ A.size = vs.length ∧ ∀ i p, vs[i]? = some p → ∃ u, A[i]? = some u ∧ RepE g w (fun j => κ (offs vs i + j)) p u
 | .st cs, v => ∃ A : Array Value, v = .agg A ∧ A.size = cs.length ∧ ∀ j c, cs[j]? = some c → ∃ u, A[j]? = some u ∧ RepC g w (κ j) c u
 | p, v => RepV g w (κ 0) p v
def RepK (g : G) (w : World) (κ : Nat → Key) (cs : List PV) (C : Array Value) : Prop :=
 C.size = cs.length ∧ ∀ j c, cs[j]? = some c → ∃ u, C[j]? = some u ∧ RepC g w (κ j) c u
structure GlobOk (g : G) : Prop where
 is : ∀ (n T : Nat) (x : Dn T), glob n = some ⟨T, x⟩ → ∃ C, g.fz n = some C ∧ C.size = (cells T x).length ∧ CellsAt g C 0 (cells T x)
 any : ∀ (n : Nat) (k : IntKind), gany n = some k → ∃ C m, g.fz n = some C ∧ C[0]? = some (.int k m)
theorem gl_mono {g g' : G} (h : Grow g g') (hg : GlobOk g) : GlobOk g' := ⟨fun n T x hn => let ⟨C, h1, h3, h2⟩ := hg.is n T x hn; ⟨C, h.fz n C h1, h3, h2.mono h⟩, fun n k hn => let ⟨C, m, h1, h2⟩ := hg.any n k hn; ⟨C, m, h.fz n C h1, h2⟩⟩
structure WF (g : G) (w : World) : Prop where
 gl : GlobOk g
 own : ∀ b κ, g.own b = some κ → b < w.heap.size
 fz : ∀ b C, g.fz b = some C → g.own b = none ∧ w.heap[b]? = some (.cells C (g.fe b).1 (g.fe b).2)
 ob : ∀ b b' j, g.own b = some (.ob b' j) → b' < w.heap.size
 ol : ∀ i, i < g.no → g.oa i < w.heap.size
 inj : ∀ i j, i < g.no → j < g.no → g.oa i = g.oa j → i = j
 oe : ∀ i, i < g.no → g.own (g.oa i) = some .obj ∧ ∃ C fr, w.heap[g.oa i]? = some (.cells C (g.fe (g.oa i)).1 fr)
def RowTy (w w' : World) : Prop := ∀ (b : Nat) (C : Array Value) (E : TypeId) (fr : Nat × Nat), w.heap[b]? = some (Obj.cells C E fr) → ∃ C' fr', w'.heap[b]? = some (Obj.cells C' E fr')
theorem RowTy.of_same {w w' : World} (h : ∀ b, b < w.heap.size → w'.heap[b]? = w.heap[b]?) : RowTy w w' := fun b C E fr hb => ⟨C, fr, (h b (Array.getElem?_eq_some_iff.1 hb).1).trans hb⟩
theorem WF.oe_row {g : G} {w w' : World} (h : WF g w) (hw : RowTy w w') : ∀ i, i < g.no → g.own (g.oa i) = some .obj ∧ ∃ C fr, w'.heap[g.oa i]? = some (.cells C (g.fe (g.oa i)).1 fr) := fun i hi => by
 obtain ⟨h0, C, fr, h1⟩ := h.oe i hi
 exact ⟨h0, hw _ _ _ _ h1⟩
def G.addr (g : G) : Base → Nat
 | .loc t => g.lb t
 | .obj i => g.oa i
def hdr (g : G) (a : Act) (w : World) : Src → Option Value
 | .var u => a.tmps[u]?
 | .cell b o => w.cell? ⟨g.addr b, o, none⟩
 | .vo i => g.va i
def RepP (g : G) (w : World) (T : Nat) (xs : List (Dn T)) (v : Value) : Prop :=
 (xs = [] ∧ v = .slice none 0 0) ∨ ∃ b off cap C E, v = .slice (some ⟨b, off, none⟩) xs.length cap ∧ xs.length ≤ cap ∧ w.heap[b]? = some (.cells C E (0, 0)) ∧ (∃ κ, g.own b = some κ ∧ κ.cell) ∧
  ∀ i x, xs[i]? = some x → CellsAt g C (off + i * sz T) (cells T x)
def RepR (S : St) (g : G) (a : Act) (w : World) (v : Value) : RV → Prop
 | .pk T xs src => RepP g w T xs v ∧ ∀ s, src = some s → S.at_ s = some (.ol T xs) ∧ hdr g a w s = some v
 | .el s T i off => ∃ (xs : List (Dn T)) (b len cap : Nat), S.at_ s = some (.ol T xs) ∧ hdr g a w s = some (.slice (some ⟨b, 0, none⟩) len cap) ∧ i < xs.length ∧
   v = .pointer (some ⟨b, i * sz T + off, none⟩)
 | .sl s T lo hi => ∃ xs : List (Dn T), S.at_ s = some (.ol T xs) ∧ lo ≤ hi ∧ hi ≤ xs.length ∧
   ((lo = hi ∧ ∃ ao cap, v = .slice ao 0 cap) ∨ (lo < hi ∧ ∃ b len cap cap', hdr g a w s = some (.slice (some ⟨b, 0, none⟩) len cap) ∧ v = .slice (some ⟨b, lo * sz T, none⟩) (hi - lo) cap'))
 | .mr s => ∃ (U : Nat) (es : List (ByteArray × Dn U)), S.at_ s = some (.mp U es) ∧ hdr g a w s = some v
 | .dead => True
def NoOk : Option Nat → Nat → Nat → Prop
 | none, m, n => m = n
 | some k, m, n => m = 0 ∧ n = k
structure Rel (d nt : Nat) (e : Option Nat) (S : St) (g : G) (a : Act) (w : World) : Prop where
 sz : a.tmps.size = nt
 tm : ∀ t p, lk S.tm t = some p → t < nt ∧ RepT g w (Key.tm d t) p (a.tmps.getD t undef)
 lc : ∀ t cs, lk S.lc t = some cs → g.own (g.lb t) = some (.loc d t) ∧ ∃ C E, w.heap[g.lb t]? = some (.cells C E (0, 0)) ∧ RepK g w (Key.lc d t) cs C
 mm : ∀ i cs, S.mm[i]? = some cs → i < g.no ∧ g.own (g.oa i) = some .obj ∧ ∃ C E, w.heap[g.oa i]? = some (.cells C E (0, 0)) ∧ RepK g w (Key.ob (g.oa i)) cs C
 no : NoOk e S.mm.length g.no
 rt : ∀ t r, lk S.rt t = some r → t < nt ∧ RepR S g a w (a.tmps.getD t undef) r
 wf : WF g w
 df : a.defers = []
 vl : ∀ i p, S.vl[i]? = some p → ∃ v, g.va i = some v ∧ RepC g w (Key.vo d i) p v
structure Keep (X : Nat → Key → Prop) (g : G) (w : World) (g' : G) (w' : World) : Prop where
 gr : Grow g g'
 lb : g'.lb = g.lb
 own : ∀ b κ, g.own b = some κ → ¬ X b κ → g'.own b = some κ ∧ w'.heap[b]? = w.heap[b]?
theorem ownsRow_block {w w' : World} {base E size n : Nat} {v : Value} {xs : List Value} (h : w.ownsRow base E size v n xs) (hb : ∀ b, v.ownBlock = some b → w'.heap[b]? = w.heap[b]?) :
  w'.ownsRow base E size v n xs := by
 refine ⟨h.1, ?_⟩
 rcases h.2 with hn | ⟨g, cap, cur, rfl, hb', hg, rest⟩
 ·exact .inl hn
 ·exact .inr ⟨g, cap, cur, rfl, hb', by rw [hb g rfl]; exact hg, rest⟩
variable {X : Nat → Key → Prop} {g g' : G} {w w' : World}
theorem RepO.keep (h : Keep X g w g' w') {κ : Key} (hx : ∀ b, g.own b = some κ → ¬ X b κ) {T : Nat} {xs : List (Dn T)} {v : Value} (hp : RepO g w κ T xs v) : RepO g' w' κ T xs v := by
 obtain ⟨vs, h1, h2, h3⟩ := hp
 exact ⟨vs, ownsRow_block h1 fun b hb => (h.own b κ (h2 b hb) (hx b (h2 b hb))).2, fun b hb => (h.own b κ (h2 b hb) (hx b (h2 b hb))).1, fun i x hi => (h3 i x hi).mono h.gr⟩
theorem RepM.keep (h : Keep X g w g' w') {κ : Key} (hx : ∀ b, g.own b = some κ → ¬ X b κ) {U : Nat} {es : List (ByteArray × Dn U)} {v : Value} (hp : RepM g w κ U es v) : RepM g' w' κ U es v := by
 obtain ⟨r, ms, ck, h1, h2, h3, h4, h5⟩ := hp
 have h6 := h.own r κ h2 (hx r h2)
 exact ⟨r, ms, ck, h1, h6.1, h6.2.trans h3, h4, fun i e hi => let ⟨m, a1, a2, c, a3, a4⟩ := h5 i e hi; ⟨m, a1, a2, c, a3, a4.mono h.gr⟩⟩
theorem RepC.keep (h : Keep X g w g' w') {κ : Key} {p : PV} {v : Value} (hx : isOl p = true → ∀ b, g.own b = some κ → ¬ X b κ) (hp : RepC g w κ p v) : RepC g' w' κ p v := by
 cases p with
 | ol T xs => exact RepO.keep h (hx rfl) hp
 | mp U es => exact RepM.keep h (hx rfl) hp
 | gone => trivial
 | _ => exact RepF.mono h.gr hp
theorem RepV.keep (h : Keep X g w g' w') {κ : Key} {p : PV} {v : Value} (hx : isOl p = true → ∀ b, g.own b = some κ → ¬ X b κ) (hp : RepV g w κ p v) : RepV g' w' κ p v := by
 cases p with
 | st cs => obtain ⟨A, h1, h2, h3⟩ := hp; exact ⟨A, h1, h2, h3.mono h.gr⟩
 | ad b off => cases b with
  | loc t => simp only [RepV] at hp ⊢; rw [h.lb]; exact hp
  | obj i => exact RepC.keep h hx hp
 | gone => trivial
 | ol T xs => exact RepC.keep (p := .ol T xs) h hx hp
 | mp U es => exact RepC.keep (p := .mp U es) h hx hp
 | _ => exact RepF.mono h.gr hp
def olT (p : PV) (i : Nat) : Bool :=
 match p.keys[i]? with
 | some c => isOl c
 | none => false
theorem olT_gone (i : Nat) : olT .gone i = false := by cases i <;> rfl
theorem RepE.keep (h : Keep X g w g' w') {κ : Nat → Key} {p : PV} {v : Value} (hx : ∀ j c, p.ks[j]? = some c → isOl c = true → ∀ b, g.own b = some (κ j) → ¬ X b (κ j)) (hp : RepE g w κ p v) : RepE g' w' κ p v := by
 cases p with
 | st cs =>
  obtain ⟨A, h1, h2, h3⟩ := hp
  refine ⟨A, h1, h2, fun i p hi => ?_⟩
  obtain ⟨u, h4, h5⟩ := h3 i p hi
  exact ⟨u, h4, h5.keep h fun ho => hx i p hi ho⟩
 | ol T xs => exact RepV.keep (p := .ol T xs) h (fun _ => hx 0 (.ol T xs) rfl rfl) hp
 | mp U es => exact RepV.keep (p := .mp U es) h (fun _ => hx 0 (.mp U es) rfl rfl) hp
 | ad b off => exact RepV.keep (κ := κ 0) (p := .ad b off) h (fun ho => by simp [isOl, isLs] at ho) hp
 | gone => trivial
 | tup vs => exact (show False by have h : RepF g (.tup vs) v := hp; cases h).elim
 | _ => exact RepF.mono h.gr hp
theorem RepT.keep (h : Keep X g w g' w') {κ : Nat → Key} {p : PV} {v : Value} (hx : ∀ i, olT p i = true → ∀ b, g.own b = some (κ i) → ¬ X b (κ i)) (hp : RepT g w κ p v) : RepT g' w' κ p v := by
 cases p with
 | tup vs =>
  obtain ⟨A, h1, h2, h3⟩ := hp
  refine ⟨A, h1, h2, fun i p hi => ?_⟩
  obtain ⟨u, h4, h5⟩ := h3 i p hi
  exact ⟨u, h4, h5.keep h fun j c hj ho => hx _ (by simp only [olT, PV.keys, keys_at vs i hi hj]; exact ho)⟩
 | ol T xs => exact RepV.keep (p := .ol T xs) h (fun _ => hx 0 rfl) hp
 | mp U es => exact RepV.keep (p := .mp U es) h (fun _ => hx 0 rfl) hp
 | st cs =>
  obtain ⟨A, h1, h2, h3⟩ := hp
  refine ⟨A, h1, h2, fun i p hi => ?_⟩
  obtain ⟨u, h4, h5⟩ := h3 i p hi
  exact ⟨u, h4, h5.keep h fun ho => hx i (by simp only [olT, PV.keys, hi]; exact ho)⟩
 | ad b off => exact RepV.keep (κ := κ 0) (p := .ad b off) h (fun ho => by simp [isOl, isLs] at ho) hp
 | gone => trivial
 | _ => exact RepF.mono h.gr hp
theorem RepK.keep (h : Keep X g w g' w') {κ : Nat → Key} {cs : List PV} {C : Array Value} (hx : ∀ j c, cs[j]? = some c → isOl c = true → ∀ b, g.own b = some (κ j) → ¬ X b (κ j)) (hp : RepK g w κ cs C) : RepK g' w' κ cs C :=
 ⟨hp.1, fun j c hj => let ⟨u, h1, h2⟩ := hp.2 j c hj; ⟨u, h1, h2.keep h (hx j c hj)⟩⟩
structure Free (d : Nat) (S : St) (g : G) (κ : Key) : Prop where
 tm : ∀ t p i, κ = .tm d t i → lk S.tm t = some p → olT p i = false
 lc : ∀ t cs j c, κ = .lc d t j → lk S.lc t = some cs → cs[j]? = some c → isOl c = false
 mm : ∀ k cs j c, κ = .ob (g.oa k) j → S.mm[k]? = some cs → cs[j]? = some c → isOl c = false
 vl : ∀ i p, κ = .vo d i → S.vl[i]? = some p → isOl p = false
theorem RepP.keep (h : Keep X g w g' w') {T : Nat} {xs : List (Dn T)} {v : Value} (hx : ∀ b κ, v.ownBlock = some b → g.own b = some κ → ¬ X b κ) (hp : RepP g w T xs v) : RepP g' w' T xs v := by
 rcases hp with h0 | ⟨b, off, cap, C, E, h1, h2, h3, ⟨κ, h4, h5⟩, h6⟩
 ·exact .inl h0
 ·subst h1
  have hk := h.own b κ h4 (hx b κ rfl h4)
  exact .inr ⟨b, off, cap, C, E, rfl, h2, hk.2.trans h3, ⟨κ, hk.1, h5⟩, fun i x hi => (h6 i x hi).mono h.gr⟩
theorem cell_heap {a : Addr} (h : w'.heap[a.block]? = w.heap[a.block]?) : w'.cell? a = w.cell? a := by simp [World.cell?, h]
variable {d nt : Nat} {e : Option Nat} {S : St} {a : Act}
def bkey (d : Nat) : Base → Key
 | .loc t => .loc d t
 | .obj _ => .obj
def ckey (d : Nat) (g : G) : Base → Nat → Key
 | .loc t, j => .lc d t j
 | .obj i, j => .ob (g.oa i) j
theorem Rel.cont (h : Rel d nt e S g a w) {b : Base} {cs : List PV} (hb : S.cont b = some cs) :
  g.own (g.addr b) = some (bkey d b) ∧ ∃ C E, w.heap[g.addr b]? = some (.cells C E (0, 0)) ∧ RepK g w (ckey d g b) cs C := by
 cases b with
 | loc t => exact h.lc t cs hb
 | obj i => exact (h.mm i cs hb).2
theorem bkey_cell (d : Nat) (b : Base) : ¬ (bkey d b).cell := by cases b <;> simp [bkey, Key.cell]
theorem hdr_keep (h : Rel d nt e S g a w) (hk : Keep X g w g' w') (hX : ∀ b κ, X b κ → κ.cell) {s : Src} {p : PV} (hs : S.at_ s = some p) : hdr g' a w' s = hdr g a w s := by
 cases s with
 | var u => rfl
 | vo i => exact congrFun hk.gr.va i
 | cell b o =>
  simp only [hdr]
  simp only [St.at_] at hs
  cases hb : S.cont b with
  | none => simp [hb] at hs
  | some cs =>
   have h1 := h.cont hb
   have h2 := hk.own _ _ h1.1 fun hx => bkey_cell d b (hX _ _ hx)
   have h3 : g'.addr b = g.addr b := by
    cases b with
    | loc t => simp only [G.addr, hk.lb]
    | obj i => exact hk.gr.oa i (h.mm i cs hb).1
   rw [h3]
   exact cell_heap h2.2
theorem Rel.keep (h : Rel d nt e S g a w) (hk : Keep X g w g' w') (hno : True → g'.no = g.no) (hc : ∀ b κ, X b κ → κ.cell ∧ (g.own b = some κ → Free d S g κ))
  (hr : S.rt = [] ∨ ∀ b κ, g.own b = some κ → κ.cell → w'.heap[b]? = w.heap[b]? ∧ ∃ κ', g'.own b = some κ' ∧ κ'.cell) (hw : WF g' w') : Rel d nt e S g' a w' := by
 refine ⟨h.sz, fun t p hp => ?_, fun t cs ht => ?_, fun i cs hi => ?_, by rw [hno trivial]; exact h.no, fun t r hr' => ?_, hw, h.df, fun i p hi => ?_⟩
 ·obtain ⟨h1, h2⟩ := h.tm t p hp
  exact ⟨h1, h2.keep hk fun i hi b hb hx => by have := ((hc _ _ hx).2 hb).tm t p i rfl hp; simp [this] at hi⟩
 ·obtain ⟨h1, C, E, h2, h3⟩ := h.lc t cs ht
  have h4 := hk.own _ _ h1 fun hx => (hc _ _ hx).1
  rw [hk.lb]
  exact ⟨h4.1, C, E, h4.2.trans h2, h3.keep hk fun j c hj hi b hb hx => by have := ((hc _ _ hx).2 hb).lc t cs j c rfl ht hj; simp [this] at hi⟩
 ·obtain ⟨h0, h1, C, E, h2, h3⟩ := h.mm i cs hi
  have h4 := hk.own _ _ h1 fun hx => (hc _ _ hx).1
  rw [hk.gr.oa i h0]
  exact ⟨Nat.lt_of_lt_of_le h0 hk.gr.no, h4.1, C, E, h4.2.trans h2, h3.keep hk fun j c hj hi' b hb hx => by have := ((hc _ _ hx).2 hb).mm i cs j c rfl hi hj; simp [this] at hi'⟩
 ·rcases hr with hr | hX
  ·rw [hr] at hr'; simp [lk] at hr'
  ·obtain ⟨h1, h2⟩ := h.rt t r hr'
   refine ⟨h1, ?_⟩
   have hh : ∀ {s : Src} {p : PV}, S.at_ s = some p → hdr g' a w' s = hdr g a w s := fun hs => hdr_keep h hk (fun b κ hx => (hc b κ hx).1) hs
   cases r with
   | pk T xs src =>
    refine ⟨?_, fun s hs => ?_⟩
    ·rcases h2.1 with h0 | ⟨b, off, cap, C, E, h3, h4, h5, ⟨κ, h6, h7⟩, h8⟩
     ·exact .inl h0
     ·have h9 := hX b κ h6 h7
      exact .inr ⟨b, off, cap, C, E, h3, h4, h9.1.trans h5, h9.2, fun i x hi => (h8 i x hi).mono hk.gr⟩
    ·obtain ⟨h5, h6⟩ := h2.2 s hs
     exact ⟨h5, (hh h5).trans h6⟩
   | el s T i off =>
    obtain ⟨xs, b, len, cap, h5, h6, h7⟩ := h2
    exact ⟨xs, b, len, cap, h5, (hh h5).trans h6, h7⟩
   | sl s T lo hi =>
    obtain ⟨xs, q8, q9, q10, q11⟩ := h2
    exact ⟨xs, q8, q9, q10, q11.imp id fun ⟨q, b, len, cap, cap', q12, q13⟩ => ⟨q, b, len, cap, cap', (hh q8).trans q12, q13⟩⟩
   | mr s =>
    obtain ⟨U, es, h5, h6⟩ := h2
    exact ⟨U, es, h5, (hh h5).trans h6⟩
   | dead => trivial
 ·obtain ⟨v, h1, h2⟩ := h.vl i p hi
  exact ⟨v, by rw [hk.gr.va]; exact h1, h2.keep hk fun ho b hb hx => by have := ((hc _ _ hx).2 hb).vl i p rfl hi; simp [this] at ho⟩
theorem lk_cons {α : Type} (l : List (Nat × α)) (u t : Nat) (x : α) : lk ((u, x) :: l) t = if u = t then some x else lk l t := by
 simp only [lk]
 by_cases h : u = t
 ·simp [h]
 ·have : Nat.beq u t = false := by
   cases hb : Nat.beq u t with
   | true => exact absurd (Nat.eq_of_beq_eq_true hb) h
   | false => rfl
  simp [this, h]
theorem beq_true {u t : Nat} (h : Nat.beq u t = true) : u = t := Nat.eq_of_beq_eq_true h
theorem beq_false {u t : Nat} (h : Nat.beq u t = false) : u ≠ t := Nat.ne_of_beq_eq_false h
theorem RV.on_false {t : Nat} {r : RV} (h : r.on t = false) : ∀ s, r.src = some s → s.isVar t = false := by
 intro s hs
 simpa [RV.on, hs] using h
theorem lk_dropR {t : Nat} {l : List (Nat × RV)} {u : Nat} {r : RV} (h : lk (dropR t l) u = some r) :
  r = .dead ∨ (u ≠ t ∧ (∀ s, r.src = some s → s.isVar t = false)) ∧ lk l u = some r := by
 induction l with
 | nil => simp [dropR, lk] at h
 | cons x l ih =>
  obtain ⟨v, q⟩ := x
  simp only [dropR] at h
  rw [lk_cons] at h ⊢
  by_cases hv : v = u
  ·subst hv
   simp only [if_true, Option.some.injEq] at h ⊢
   cases hc : (Nat.beq v t || q.on t) with
   | true => simp only [hc, cond_true] at h; exact .inl h.symm
   | false =>
    simp only [hc, cond_false] at h
    subst h
    simp only [Bool.or_eq_false_iff] at hc
    exact .inr ⟨⟨beq_false hc.1, RV.on_false hc.2⟩, rfl⟩
  ·simp only [hv, if_false] at h ⊢
   exact ih h
theorem Rel.setT' {a' : Act} (h : Rel d nt e S g a w) {t : Nat} {p : PV} (ht : t < nt) (hs : a'.tmps.size = a.tmps.size) (hd : a'.defers = a.defers) (ha : ∀ u, u ≠ t → a'.tmps[u]? = a.tmps[u]?)
  (hv : RepT g w (Key.tm d t) p (a'.tmps.getD t undef)) : Rel d nt e (S.setT t p) g a' w := by
 have hg : ∀ u, u ≠ t → a'.tmps.getD u undef = a.tmps.getD u undef := fun u hu => by
  simp only [Array.getD_eq_getD_getElem?, ha u hu]
 refine ⟨hs.trans h.sz, fun u q hq => ?_, h.lc, h.mm, h.no, fun u r hr => ?_, h.wf, hd.trans h.df, h.vl⟩
 ·simp only [St.setT] at hq
  rw [lk_cons] at hq
  by_cases hu : t = u
  ·subst hu
   simp only [if_true, Option.some.injEq] at hq
   subst hq
   exact ⟨ht, hv⟩
  ·simp only [hu, if_false] at hq
   rw [hg u (Ne.symm hu)]
   exact h.tm u q hq
 ·simp only [St.setT] at hr
  by_cases hdd : r = .dead
  ·subst hdd
   refine ⟨?_, trivial⟩
   rcases Nat.lt_or_ge u nt with hu | hu
   ·exact hu
   ·exfalso
    have : ∀ l : List (Nat × RV), (∀ v, nt ≤ v → lk l v = none) → ∀ v, nt ≤ v → lk (dropR t l) v = none := by
     intro l
     induction l with
     | nil => intro _ v _; rfl
     | cons x l ih =>
      obtain ⟨y, q⟩ := x
      intro hl v hv
      simp only [dropR]
      rw [lk_cons]
      have h1 := hl v hv
      rw [lk_cons] at h1
      by_cases hy : y = v
      ·simp [hy] at h1
      ·simp only [hy, if_false] at h1 ⊢
       exact ih (fun v hv => by have h2 := hl v hv; rw [lk_cons] at h2; by_cases hy : y = v <;> simp [hy] at h2; exact h2) v hv
    have h2 := this S.rt (fun v hv => by
     cases hl : lk S.rt v with
     | none => rfl
     | some q => have := (h.rt v q hl).1; omega) u hu
    rw [h2] at hr
    simp at hr
  ·rcases lk_dropR hr with h1 | ⟨⟨h1, h2⟩, h3⟩
   ·exact absurd h1 hdd
   ·obtain ⟨h4, h5⟩ := h.rt u r h3
    refine ⟨h4, ?_⟩
    rw [hg u h1]
    have hat : ∀ s, r.src = some s → (S.setT t p).at_ s = S.at_ s ∧ hdr g a' w s = hdr g a w s := by
     intro s hs
     have h6 := h2 s hs
     cases s with
     | var v =>
      have h7 : v ≠ t := beq_false h6
      refine ⟨?_, ha v h7⟩
      simp only [St.at_, St.setT]
      rw [lk_cons, if_neg (Ne.symm h7)]
     | cell b o => exact ⟨by cases b <;> rfl, rfl⟩
     | vo i => exact ⟨rfl, rfl⟩
    cases r with
    | pk T xs src =>
     refine ⟨h5.1, fun s hs => ?_⟩
     have h7 := hat s hs
     rw [h7.1, h7.2]
     exact h5.2 s hs
    | el s T i off =>
     have h7 := hat s rfl
     obtain ⟨xs, b, len, cap, h8, h9, h10⟩ := h5
     exact ⟨xs, b, len, cap, h7.1.trans h8, h7.2.trans h9, h10⟩
    | sl s T lo hi =>
     have h7 := hat s rfl
     obtain ⟨xs, q8, q9, q10, q11⟩ := h5
     exact ⟨xs, h7.1.trans q8, q9, q10, q11.imp id fun ⟨q, b, len, cap, cap', q12, q13⟩ => ⟨q, b, len, cap, cap', h7.2.trans q12, q13⟩⟩
    | mr s =>
     have h7 := hat s rfl
     obtain ⟨U, es, h8, h9⟩ := h5
     exact ⟨U, es, h7.1.trans h8, h7.2.trans h9⟩
    | dead => trivial
theorem put_get (a : Act) (t : Nat) (v : Value) (ht : t < a.tmps.size) : (a.put (some t) v).tmps.getD t undef = v := by
 simp [Act.put, Array.getD_eq_getD_getElem?, ht]
theorem put_ne (a : Act) (t : Nat) (v : Value) {u : Nat} (h : u ≠ t) : (a.put (some t) v).tmps[u]? = a.tmps[u]? := by
 simp [Act.put, Array.getElem?_setIfInBounds, Ne.symm h]
theorem Rel.setT (h : Rel d nt e S g a w) {t : Nat} {p : PV} {v : Value} (ht : t < nt) (hv : RepT g w (Key.tm d t) p v) : Rel d nt e (S.setT t p) g (a.put (some t) v) w :=
 h.setT' ht (by simp [Act.put]) (by simp [Act.put]) (fun u hu => put_ne a t v hu) (by rw [put_get a t v (by rw [h.sz]; exact ht)]; exact hv)
theorem Rel.gone (h : Rel d nt e S g a w) {t : Nat} (ht : t < nt) : Rel d nt e (S.setT t .gone) g a w := h.setT' ht rfl rfl (fun _ _ => rfl) trivial
theorem Rel.noR (h : Rel d nt e S g a w) : Rel d nt e S.noR g a w := ⟨h.sz, h.tm, h.lc, h.mm, h.no, fun t r hr => by simp [St.noR, lk] at hr, h.wf, h.df, h.vl⟩
end
end
section
section
variable [Enc] {d nt : Nat} {e : Option Nat} {S : St} {g g' : G} {a : Act} {w w' : World} {P : Program}
def Outer (d m : Nat) (g : G) (b : Nat) : Key → Prop
 | .obj => ∀ i, i < m → g.oa i ≠ b
 | .ob b' _ => ∀ i, i < m → g.oa i ≠ b'
 | .loc d' _ | .tm d' _ _ | .lc d' _ _ | .ar d' _ | .rt d' _ | .vo d' _ => d' < d
structure Sl (w w' : World) : Prop where
 os : w'.os = w.os
 tape : w'.tape = w.tape
 out : w'.output = w.output
theorem Sl.refl (w : World) : Sl w w := ⟨rfl, rfl, rfl⟩
theorem Sl.trans {w w1 w2 : World} (h : Sl w w1) (h' : Sl w1 w2) : Sl w w2 := ⟨h'.os.trans h.os, h'.tape.trans h.tape, h'.out.trans h.out⟩
structure Ext (d m : Nat) (g : G) (w : World) (g' : G) (w' : World) : Prop where
 gr : Grow g g'
 own : ∀ b κ, g.own b = some κ → Outer d m g b κ → g'.own b = some κ ∧ w'.heap[b]? = w.heap[b]?
 hs : w.heap.size ≤ w'.heap.size
 nw : ∀ i, g.no ≤ i → i < g'.no → w.heap.size ≤ g'.oa i
 sl : Sl w w'
theorem Ext.refl (d m : Nat) (g : G) (w : World) : Ext d m g w g w := ⟨.refl g, fun _ _ h _ => ⟨h, rfl⟩, Nat.le_refl _, fun i h1 h2 => by omega, .refl w⟩
theorem Rel.setR (h : Rel d nt e S g a w) {t : Nat} {r : RV} {v : Value} (ht : t < nt) (hv : RepR S g a w v r) (hs : ∀ s, r.src = some s → s.isVar t = false) :
  Rel d nt e (S.setR t r) g (a.put (some t) v) w := by
 have h1 : Rel d nt e (S.setT t .gone) g (a.put (some t) v) w := h.setT ht trivial
 refine ⟨h1.sz, h1.tm, h1.lc, h1.mm, h1.no, fun u q hq => ?_, h1.wf, h1.df, h1.vl⟩
 have hget : (a.put (some t) v).tmps.getD t undef = v := put_get a t v (by rw [h.sz]; exact ht)
 simp only [St.setR] at hq
 rw [lk_cons] at hq
 by_cases hu : t = u
 ·subst hu
  simp only [if_true, Option.some.injEq] at hq
  subst hq
  refine ⟨ht, ?_⟩
  rw [hget]
  have hat : ∀ s, r.src = some s → (S.setR t r).at_ s = S.at_ s ∧ hdr g (a.put (some t) v) w s = hdr g a w s := by
   intro s hs'
   have h6 := hs s hs'
   cases s with
   | var u =>
    have h7 : u ≠ t := beq_false h6
    refine ⟨?_, put_ne a t v h7⟩
    simp only [St.at_, St.setR]
    rw [lk_cons, if_neg (Ne.symm h7)]
   | cell b o => exact ⟨by cases b <;> rfl, rfl⟩
   | vo i => exact ⟨rfl, rfl⟩
  cases r with
  | pk T xs src =>
   refine ⟨hv.1, fun s hs' => ?_⟩
   have h7 := hat s hs'
   rw [h7.1, h7.2]
   exact hv.2 s hs'
  | el s T i off =>
   have h7 := hat s rfl
   obtain ⟨xs, b, len, cap, h8, h9, h10⟩ := hv
   exact ⟨xs, b, len, cap, h7.1.trans h8, h7.2.trans h9, h10⟩
  | sl s T lo hi =>
   have h7 := hat s rfl
   obtain ⟨xs, q8, q9, q10, q11⟩ := hv
   exact ⟨xs, h7.1.trans q8, q9, q10, q11.imp id fun ⟨q, b, len, cap, cap', q12, q13⟩ => ⟨q, b, len, cap, cap', h7.2.trans q12, q13⟩⟩
  | mr s =>
   have h7 := hat s rfl
   obtain ⟨U, es, h8, h9⟩ := hv
   exact ⟨U, es, h7.1.trans h8, h7.2.trans h9⟩
  | dead => trivial
 ·simp only [hu, if_false] at hq
  obtain ⟨h2, h3⟩ := h1.rt u q hq
  refine ⟨h2, ?_⟩
  have hat : ∀ s, (S.setR t r).at_ s = (S.setT t .gone).at_ s := by
   intro s
   cases s with
   | var u => rfl
   | cell b o => cases b <;> rfl
   | vo i => rfl
  cases q with
  | pk T xs src => exact ⟨h3.1, fun s hs' => ⟨(hat s).trans (h3.2 s hs').1, (h3.2 s hs').2⟩⟩
  | el s T i off =>
   obtain ⟨xs, b, len, cap, h8, h9, h10⟩ := h3
   exact ⟨xs, b, len, cap, (hat s).trans h8, h9, h10⟩
  | sl s T lo hi =>
   obtain ⟨xs, q8, q9, q10, q11⟩ := h3
   exact ⟨xs, (hat s).trans q8, q9, q10, q11.imp id fun ⟨q, b, len, cap, cap', q12, q13⟩ => ⟨q, b, len, cap, cap', q12, q13⟩⟩
  | mr s =>
   obtain ⟨U, es, h8, h9⟩ := h3
   exact ⟨U, es, (hat s).trans h8, h9⟩
  | dead => trivial
theorem pvOf1_rep {v : Value} {p : PV} (h : pvOf1 v = some p) (κ : Key) : RepF g p v ∧ p.plain = true := by
 unfold pvOf1 at h
 split at h <;> simp only [Option.some.injEq, reduceCtorEq] at h <;> subst h
 ·exact ⟨.b _, rfl⟩
 ·exact ⟨.i _ _, rfl⟩
 ·exact ⟨.s _, rfl⟩
 ·exact ⟨.np, rfl⟩
 ·exact ⟨.nl, rfl⟩
 ·exact ⟨.ifcN, rfl⟩
theorem pvOfL_rep {l : List Value} : ∀ {ps : List PV}, pvOfL l = some ps → l.length = ps.length ∧ ps.all PV.plain = true ∧ ∀ (j : Nat) (c : PV), ps[j]? = some c → ∃ u, l[j]? = some u ∧ RepF g c u := by
 induction l with
 | nil => intro ps h; simp only [pvOfL, Option.some.injEq] at h; subst h; exact ⟨rfl, rfl, by simp⟩
 | cons v l ih =>
  intro ps h
  simp only [pvOfL] at h
  split at h
  ·rename_i p qs h1 h2
   simp only [Option.some.injEq] at h
   subst h
   obtain ⟨h3, h5, h4⟩ := ih h2
   refine ⟨by simp [h3], by simp only [List.all_cons, h5, (pvOf1_rep (g := g) h1 .obj).2]; rfl, fun j c hj => ?_⟩
   cases j with
   | zero => simp only [List.getElem?_cons_zero, Option.some.injEq] at hj; subst hj; exact ⟨v, rfl, (pvOf1_rep h1 .obj).1⟩
   | succ j => simp only [List.getElem?_cons_succ] at hj ⊢; exact h4 j c hj
  ·simp at h
theorem pvOf_rep {v : Value} {p : PV} (h : pvOf v = some p) (κ : Nat → Key) : RepT g w κ p v ∧ p.dup = true := by
 cases v with
 | agg cs =>
  simp only [pvOf, Option.map_eq_some_iff] at h
  obtain ⟨ps, h1, rfl⟩ := h
  obtain ⟨h2, h5, h3⟩ := pvOfL_rep (g := g) h1
  refine ⟨⟨cs, rfl, by simpa using h2, fun j c hj => ?_⟩, h5⟩
  obtain ⟨u, h4, h6⟩ := h3 j c hj
  refine ⟨u, by simpa using h4, ?_⟩
  have h7 : c.plain = true := by rw [List.all_eq_true] at h5; exact h5 c (List.mem_of_getElem? hj)
  cases c <;> first | exact h6 | simp [PV.plain] at h7
 | bool x => simp only [pvOf, Option.some.injEq] at h; subst h; exact ⟨.b x, rfl⟩
 | int k n => simp only [pvOf, Option.some.injEq] at h; subst h; exact ⟨.i k n, rfl⟩
 | string s => simp only [pvOf, Option.some.injEq] at h; subst h; exact ⟨.s s, rfl⟩
 | nilIface => simp only [pvOf, Option.some.injEq] at h; subst h; exact ⟨.ifcN, rfl⟩
 | pointer x => cases x with
  | none => simp only [pvOf, Option.some.injEq] at h; subst h; exact ⟨.np, rfl⟩
  | some x => simp [pvOf] at h
 | slice x l c => 
  unfold pvOf at h
  split at h <;> simp_all
  subst h
  exact ⟨.nl, rfl⟩
 | _ => simp [pvOf] at h
theorem plain_key {p : PV} (hp : p.plain = true) {κ : Key} {v : Value} : RepC g w κ p v ↔ RepF g p v := by
 cases p <;> simp_all [PV.plain, RepC]
theorem plain_V {p : PV} (hp : p.plain = true) {κ : Key} {v : Value} : RepV g w κ p v ↔ RepF g p v := by
 cases p with
 | ad b off => cases b with
  | loc t => simp [PV.plain] at hp
  | obj i => exact Iff.rfl
 | _ => simp_all [PV.plain, RepV, RepC]
theorem dup_V {p : PV} (hp : p.dup = true) {κ κ' : Key} {v : Value} (h : RepV g w κ p v) : RepV g w κ' p v := by
 cases p with
 | st cs => exact h
 | fa T x off => exact h
 | ad b off => cases b <;> exact h
 | _ => simp_all [PV.dup, PV.plain, RepV, RepC]
theorem all_plain {p : List PV} (h : p.all PV.plain = true) {j : Nat} {c : PV} (hj : p[j]? = some c) : c.plain = true := by
 rw [List.all_eq_true] at h
 exact h c (List.mem_of_getElem? hj)
theorem dup_T {p : PV} (hp : p.dup = true) {κ κ' : Nat → Key} {v : Value} (h : RepT g w κ p v) : RepT g w κ' p v := by
 cases p with
 | tup vs => simp [PV.dup, PV.plain] at hp
 | st cs =>
  obtain ⟨A, h1, h2, h3⟩ := h
  refine ⟨A, h1, h2, fun j c hj => ?_⟩
  obtain ⟨u, h4, h5⟩ := h3 j c hj
  have hpl := all_plain hp hj
  exact ⟨u, h4, (plain_key hpl).2 ((plain_key hpl).1 h5)⟩
 | fa T x off => exact h
 | ad b off => cases b <;> exact h
 | _ => simp_all [PV.dup, PV.plain, RepT, RepV, RepC]
theorem opv_rep (h : Rel d nt e S g a w) {x : Operand} {p : PV} (hx : S.opv x = some p) : RepT g w (match x with | .tmp t => Key.tm d t | _ => fun _ => .obj) p (a.eval x) := by
 cases x with
 | tmp t => exact (h.tm t p hx).2
 | const v => exact (pvOf_rep (g := g) (w := w) hx fun _ => .obj).1
 | global n =>
  have hx := hx
  simp only [St.opv] at hx
  split at hx
  ·rename_i T y hn
   simp only [Option.some.injEq] at hx
   subst hx
   obtain ⟨C, h1, _, h2⟩ := h.wf.gl.is n T y hn
   exact RepF.fa' (off := 0) (o := 0) h1 h2
  ·simp at hx
 | func f =>
  have hx := hx
  simp only [St.opv, Option.some.injEq] at hx
  subst hx
  exact RepF.clo f [] (by simp)
theorem opv_dup (h : Rel d nt e S g a w) {x : Operand} {p : PV} (hx : S.opv x = some p) (hp : p.dup = true) (κ : Nat → Key) : RepT g w κ p (a.eval x) := dup_T hp (opv_rep h hx)
theorem opv_global_ol {n T : Nat} {xs : List (Dn T)} : S.opv (.global n) ≠ some (.ol T xs) := by
 intro h
 simp only [St.opv] at h
 split at h <;> simp at h
theorem opv_const_ol {v : Value} {T : Nat} {xs : List (Dn T)} : S.opv (.const v) ≠ some (.ol T xs) := by
 intro h
 have h := (pvOf_rep (g := ⟨fun _ => none, fun _ => none, 0, fun _ => 0, fun _ => 0, fun _ => (0, (0, 0)), fun _ => none⟩) (w := default) h fun _ => .obj).2
 simp [PV.dup, PV.plain] at h
structure Wc (p q : PV) : Prop where
 f : ∀ (g : G) (v : Go.Value), RepF g p v → RepF g q v
 a : ∀ (U : Nat) (xs : List (Dn U)), p = .fl U xs → q = .fl U xs
 b : ∀ (U : Nat) (xs : List (Dn U)), q = .fl U xs → p = .fl U xs ∨ (p = .nl ∧ xs = [])
structure EncOk : Prop where
 u8 : ∀ (T : Nat) (f : Dn T → Int), u8 T = some f → sz T = 1 ∧ ∀ x, cells T x = [.i .u8 (f x)]
 u8m : ∀ (T : Nat) (f : Dn T → Int) (n : Int), Enc.u8 T = some f → ∃ x, Enc.mkE T [.i .u8 n] = some x
 len : ∀ (T : Nat) (x : Dn T), (cells T x).length = sz T
 plain : ∀ (T : Nat) (x : Dn T), (cells T x).all PV.plain = true
 nob : ∀ (T : Nat) (x : Dn T), (cells T x).all PV.nob1 = true
 own : ∀ (T : Nat) (cs : List PV) (x : Dn T), mkE T cs = some x → ∀ (j : Nat) (c : PV), (cells T x)[j]? = some c → ∃ p, cs[j]? = some p ∧ Wc p c
 flat : ∀ (T : Nat), flatT T = true → ∀ x : Dn T, (cells T x).all PV.flat1 = true
 mkE : ∀ (T : Nat) (cs : List PV) (x : Dn T), mkE T cs = some x → cs.length = sz T ∧ ∀ (g : G) (A : Array Value) (o : Nat), CellsAt g A o cs → CellsAt g A o (cells T x)
structure PairOk (P : Program) (k : TypeId) : Prop where
 st : ∃ fs, P.underlying k = some (.struct fs)
 ck : ∀ (b : Bool) (x y : Int) (w : World), (Instr.checkKey b 10000 k (.agg #[.int .i64 x, .int .i64 y])).run P w = .ok () w
 eq : ∀ (x y x' y' : Int) (w : World), (Op.equal k (.agg #[.int .i64 x, .int .i64 y]) (.agg #[.int .i64 x', .int .i64 y'])).run P w = .ok (x == x' && y == y') w
structure TabOk (P : Program) (T : Tab) : Prop where
 int : ∀ t k, T.K t = .int k → P.underlying t = some (.int k)
 bool : ∀ t, T.K t = .bool → P.underlying t = some .bool
 str : ∀ t, T.K t = .str → P.underlying t = some .string
 slice : ∀ t el, T.K t = .slice el → P.underlying t = some (.slice el) ∧ T.cz el = sz el ∧ 0 < sz el ∧
  ∃ i z, P.info? el = some i ∧ i.size = sz el ∧ i.bytes = T.by_ el ∧ 0 < i.bytes ∧ i.zero = some z ∧ z.cells.size = sz el
 iface : ∀ t, T.K t = .iface → ∃ ms, P.underlying t = some (.interface ms)
 map : ∀ t el, T.K t = .map el → ∃ k v i, P.underlying t = some (.map k el) ∧ P.underlying k = some .string ∧ P.info? el = some i ∧ i.zero = some v ∧ v.cells = #[v]
 mapP : ∀ t el, T.K t = .mapP el → ∃ k v i, P.underlying t = some (.map k el) ∧ PairOk P k ∧ P.info? el = some i ∧ i.zero = some v ∧ v.cells = #[v]
 ptr : ∀ t el, T.K t = .ptr el → P.underlying t = some (.pointer el)
 struct : ∀ t, T.K t = .struct → ∃ fs, P.underlying t = some (.struct fs)
 other : ∀ t, T.K t = .other → ∃ dd, P.underlying t = some dd ∧ (match dd with | .struct _ | .array _ _ => False | _ => True)
 cz : ∀ t, 0 < T.cz t → ∃ i, P.info? t = some i ∧ i.size = T.cz t
 zr : ∀ t z, T.zr t = some z → ∃ i v, P.info? t = some i ∧ i.zero = some v ∧ i.size = z.length ∧ v.cells.size = z.length ∧ z.all PV.plain = true ∧ (∀ g : G, CellsAt g v.cells 0 z) ∧ T.cz t = z.length ∧ 0 < z.length
 off : ∀ t f o n, T.off t f = some (o, n) → ∃ fs fd i, P.underlying t = some (.struct fs) ∧ fs[f]? = some fd ∧ fd.offset = o ∧ P.info? fd.type = some i ∧ i.size = n ∧ 0 < n
 ft : ∀ t f U, T.ft t f = some U → ∃ fs fd, P.underlying t = some (.struct fs) ∧ fs[f]? = some fd ∧ fd.type = U
 bld : ∀ t z, T.zr t = some z → T.K t = .struct → ∃ i fs places, P.info? t = some i ∧ P.underlying t = some (.struct fs) ∧ fs.toList.mapM (fun f => (P.info? f.type).map fun i => (f.offset, i.size)) = some places ∧
  ∀ f o n, T.off t f = some (o, n) → places.toArray[f]? = some (o, n)
 enc : EncOk
def G.re (g : G) (b : Nat) (κ : Key) : G := { g with own := fun x => if x = b then some κ else g.own x }
theorem Grow.re (g : G) {b : Nat} {κ κ' : Key} (h : g.own b = some κ) : Grow g (g.re b κ') := ⟨fun _ _ h => h, Nat.le_refl _, fun _ _ => rfl, fun _ _ _ => rfl, rfl, fun _ _ => rfl⟩
def Mine (d m : Nat) (g : G) (w : World) : Key → Prop
 | .tm d' _ _ | .lc d' _ _ | .ar d' _ | .rt d' _ | .vo d' _ => d ≤ d'
 | .ob b' _ => (∃ i, i < m ∧ g.oa i = b') ∧ b' < w.heap.size
 | _ => False
theorem Mine.cell {m : Nat} {κ : Key} (h : Mine d m g w κ) : κ.cell := by cases κ <;> simp_all [Mine, Key.cell]
theorem Mine.out {m : Nat} {κ : Key} (h : Mine d m g w κ) (b : Nat) : ¬ Outer d m g b κ := by
 cases κ with
 | ob b' j => intro ho; obtain ⟨⟨i, h1, h2⟩, _⟩ := h; exact ho i h1 h2
 | _ => simp_all [Mine, Outer]
theorem Rel.rekey (h : Rel d nt e S g a w) {m b : Nat} {κ κ' : Key} (hb : g.own b = some κ) (hm : Mine d m g w κ) (hm' : Mine d m g w κ') (hf : Free d S g κ) :
  Rel d nt e S (g.re b κ') a w ∧ Ext d m g w (g.re b κ') w := by
 have hk : Keep (fun b' k => b' = b ∧ k = κ) g w (g.re b κ') w := ⟨Grow.re g hb, rfl, fun b' k hb' hx => ⟨by
  have hne : b' ≠ b := fun e => by subst e; rw [hb] at hb'; exact hx ⟨rfl, (Option.some.inj hb').symm⟩
  simp only [G.re, if_neg hne]; exact hb', rfl⟩⟩
 refine ⟨h.keep hk (fun _ => rfl) (fun b' k hx => ?_) (.inr fun b' k hb' hc => ⟨rfl, ?_⟩) ⟨gl_mono (Grow.re g hb) h.wf.gl, fun b' k hb' => ?_, fun b' C hf => ?_, fun b' b2 j hb' => ?_, h.wf.ol, h.wf.inj, fun i hi => by
  obtain ⟨k0, k1⟩ := h.wf.oe i hi
  have hne : g.oa i ≠ b := fun hh => by rw [hh, hb] at k0; cases k0; exact hm.elim
  exact ⟨by show (if g.oa i = b then some κ' else g.own (g.oa i)) = _; rw [if_neg hne]; exact k0, k1⟩⟩,
  ⟨Grow.re g hb, fun b' k hb' ho => ⟨?_, rfl⟩, Nat.le_refl _, fun i h1 h2 => by simp only [G.re] at h2; omega, .refl w⟩⟩
 ·obtain ⟨_, rfl⟩ := hx
  exact ⟨hm.cell, fun _ => hf⟩
 ·by_cases hx : b' = b
  ·exact ⟨κ', by simp [G.re, hx], hm'.cell⟩
  ·exact ⟨k, by simp only [G.re, if_neg hx]; exact hb', hc⟩
 ·by_cases hx : b' = b
  ·subst hx; exact h.wf.own _ _ hb
  ·simp only [G.re, if_neg hx] at hb'; exact h.wf.own _ _ hb'
 ·have h1 := h.wf.fz b' C hf
  by_cases hx : b' = b
  ·subst hx; rw [hb] at h1; simp at h1
  ·refine ⟨?_, h1.2⟩; simp only [G.re, if_neg hx]; exact h1.1
 ·by_cases hx : b' = b
  ·subst hx
   simp only [G.re, if_true, Option.some.injEq] at hb'
   subst hb'
   exact hm'.2
  ·simp only [G.re, if_neg hx] at hb'; exact h.wf.ob _ _ _ hb'
 ·by_cases hx : b' = b
  ·subst hx
   rw [hb] at hb'
   simp only [Option.some.injEq] at hb'
   subst hb'
   exact absurd ho (hm.out b')
  ·simp only [G.re, if_neg hx]; exact hb'
theorem RepO.nil {κ κ' : Key} {T : Nat} {xs : List (Dn T)} {v : Value} (h : RepO g w κ T xs v) (hv : v.ownBlock = none) : RepO g w κ' T xs v := by
 obtain ⟨vs, h1, _, h3⟩ := h
 exact ⟨vs, h1, fun b hb => by rw [hv] at hb; simp at hb, h3⟩
theorem Rel.move (h : Rel d nt e S g a w) {m : Nat} {κ κ' : Key} {T : Nat} {xs : List (Dn T)} {v : Value} (ho : RepO g w κ T xs v) (hm : Mine d m g w κ) (hm' : Mine d m g w κ') (hf : Free d S g κ) :
  ∃ g', Rel d nt e S g' a w ∧ RepO g' w κ' T xs v ∧ Ext d m g w g' w ∧ g'.oa = g.oa ∧ g'.no = g.no ∧ g'.lb = g.lb ∧ Keep (fun _ k => k = κ) g w g' w := by
 cases hv : v.ownBlock with
 | none => exact ⟨g, h, ho.nil hv, .refl _ _ _ _, rfl, rfl, rfl, ⟨.refl g, rfl, fun _ _ hb _ => ⟨hb, rfl⟩⟩⟩
 | some b =>
  obtain ⟨vs, h1, h2, h3⟩ := ho
  have hb := h2 b hv
  obtain ⟨h4, h5⟩ := h.rekey hb hm hm' hf
  refine ⟨g.re b κ', h4, ⟨vs, h1, fun b' hb' => by rw [hv] at hb'; simp only [Option.some.injEq] at hb'; subst hb'; simp [G.re], fun i x hi => (h3 i x hi).mono h5.gr⟩, h5, rfl, rfl, rfl, ⟨h5.gr, rfl, fun b' k hb' hx => ⟨?_, rfl⟩⟩⟩
  have hne : b' ≠ b := fun e => by subst e; rw [hb] at hb'; exact hx (Option.some.inj hb').symm
  simp only [G.re, if_neg hne]; exact hb'
theorem Rel.moveM (h : Rel d nt e S g a w) {m : Nat} {κ κ' : Key} {U : Nat} {es : List (ByteArray × Dn U)} {v : Value} (ho : RepM g w κ U es v) (hm : Mine d m g w κ) (hm' : Mine d m g w κ') (hf : Free d S g κ) :
  ∃ g', Rel d nt e S g' a w ∧ RepM g' w κ' U es v ∧ Ext d m g w g' w ∧ g'.oa = g.oa ∧ g'.no = g.no ∧ g'.lb = g.lb ∧ Keep (fun _ k => k = κ) g w g' w := by
 obtain ⟨b, ms, ck, h1, hb, h3, h6, h7⟩ := ho
 obtain ⟨h4, h5⟩ := h.rekey hb hm hm' hf
 refine ⟨g.re b κ', h4, ⟨b, ms, ck, h1, by simp [G.re], h3, h6, fun i x hi => let ⟨q, a1, a2, c, a3, a4⟩ := h7 i x hi; ⟨q, a1, a2, c, a3, a4.mono h5.gr⟩⟩, h5, rfl, rfl, rfl, ⟨h5.gr, rfl, fun b' k hb' hx => ⟨?_, rfl⟩⟩⟩
 have hne : b' ≠ b := fun e => by subst e; rw [hb] at hb'; exact hx (Option.some.inj hb').symm
 simp only [G.re, if_neg hne]; exact hb'
theorem Rel.moveC (h : Rel d nt e S g a w) {m : Nat} {κ κ' : Key} {c : PV} {v : Value} (hc : isOl c = true) (ho : RepC g w κ c v) (hm : Mine d m g w κ) (hm' : Mine d m g w κ') (hf : Free d S g κ) :
  ∃ g', Rel d nt e S g' a w ∧ RepC g' w κ' c v ∧ Ext d m g w g' w ∧ g'.oa = g.oa ∧ g'.no = g.no ∧ g'.lb = g.lb ∧ Keep (fun _ k => k = κ) g w g' w := by
 cases c with
 | ol T xs => exact h.move (show RepO g w κ T xs v from ho) hm hm' hf
 | mp U es => exact h.moveM (show RepM g w κ U es v from ho) hm hm' hf
 | _ => simp [isOl, isLs] at hc
theorem mine_g {m : Nat} {κ : Key} (ho : g'.oa = g.oa) (h : Mine d m g w κ) : Mine d m g' w κ := by cases κ <;> first | exact h | (simp only [Mine] at h ⊢; rw [ho]; exact h)
theorem free_g {κ : Key} (ho : g'.oa = g.oa) (h : Free d S g κ) : Free d S g' κ := ⟨h.tm, h.lc, fun k cs j c hk => h.mm k cs j c (by rw [← ho]; exact hk), h.vl⟩
theorem Ext.trans' {m : Nat} {g1 g2 : G} {w1 w2 : World} (h : Ext d m g w g1 w1) (h' : Ext d m g1 w1 g2 w2) (ho : g1.oa = g.oa) (hn : g1.no = g.no) : Ext d m g w g2 w2 := by
 refine ⟨h.gr.trans h'.gr, fun b κ hb hout => ?_, Nat.le_trans h.hs h'.hs, fun i h1 h2 => Nat.le_trans h.hs (h'.nw i (by rw [hn]; exact h1) h2), h.sl.trans h'.sl⟩
 obtain ⟨h1, h2⟩ := h.own b κ hb hout
 have h3 : Outer d m g1 b κ := by cases κ <;> first | exact hout | (simp only [Outer] at hout ⊢; rw [ho]; exact hout)
 obtain ⟨h4, h5⟩ := h'.own b κ h1 h3
 exact ⟨h4, h5.trans h2⟩
theorem notOl_key {c : PV} (hc : isOl c = false) {κ κ' : Key} {v : Value} (h : RepC g w κ c v) : RepC g w κ' c v := by cases c <;> first | exact h | simp [isOl, isLs] at hc
theorem Rel.moveCells {m : Nat} (h : Rel d nt e S g a w) (cs : List PV) (us : Nat → Value) (κ κ' : Nat → Key) (hm : ∀ j, Mine d m g w (κ j)) (hm' : ∀ j, Mine d m g w (κ' j))
  (hf : ∀ j, j < cs.length → Free d S g (κ j)) (hi : ∀ i j, κ i = κ j → i = j) (hd : ∀ i j, κ i ≠ κ' j) (hr : ∀ j c, cs[j]? = some c → RepC g w (κ j) c (us j)) :
  ∃ g', Rel d nt e S g' a w ∧ Ext d m g w g' w ∧ g'.oa = g.oa ∧ g'.no = g.no ∧ g'.lb = g.lb ∧ (∀ j c, cs[j]? = some c → RepC g' w (κ' j) c (us j)) ∧ Keep (fun _ k => ∃ j, k = κ j) g w g' w := by
 have key : ∀ n, n ≤ cs.length → ∃ g', Rel d nt e S g' a w ∧ Ext d m g w g' w ∧ g'.oa = g.oa ∧ g'.no = g.no ∧ g'.lb = g.lb ∧ (∀ j c, cs[j]? = some c → j < n → RepC g' w (κ' j) c (us j)) ∧ (∀ j c, cs[j]? = some c → n ≤ j → RepC g' w (κ j) c (us j)) ∧ Keep (fun _ k => ∃ j, k = κ j) g w g' w := by
  intro n
  induction n with
  | zero => exact fun _ => ⟨g, h, .refl _ _ _ _, rfl, rfl, rfl, fun _ _ _ hj => by omega, fun j c hj _ => hr j c hj, ⟨.refl g, rfl, fun _ _ hb _ => ⟨hb, rfl⟩⟩⟩
  | succ n ih =>
   intro hn
   obtain ⟨g1, h1, h2, h3, h4, h5, h6, h7, h7k⟩ := ih (by omega)
   have hc : cs[n]? = some cs[n] := List.getElem?_eq_getElem (by omega)
   have hcn := h7 n _ hc (Nat.le_refl n)
   cases hol : isOl cs[n] with
   | false =>
    refine ⟨g1, h1, h2, h3, h4, h5, fun j c hj hjn => ?_, fun j c hj hjn => h7 j c hj (by omega), h7k⟩
    by_cases hjn' : j = n
    ·subst hjn'
     rw [hc] at hj
     simp only [Option.some.injEq] at hj
     subst hj
     exact notOl_key hol hcn
    ·exact h6 j c hj (by omega)
   | true =>
    ·obtain ⟨g2, h8, h9, h10, h11, h12, h13, h14⟩ := h1.moveC (m := m) (κ' := κ' n) hol hcn (mine_g h3 (hm n)) (mine_g h3 (hm' n)) (free_g h3 (hf n (by omega)))
     refine ⟨g2, h8, h2.trans' h10 h3 h4, h11.trans h3, h12.trans h4, h13.trans h5, fun j c hj hjn => ?_, fun j c hj hjn => ?_, ⟨h7k.gr.trans h14.gr, h14.lb.trans h7k.lb, fun b k hb hx => ?_⟩⟩
     ·by_cases hjn' : j = n
      ·subst hjn'
       rw [hc] at hj
       simp only [Option.some.injEq] at hj
       subst hj
       exact h9
      ·exact (h6 j c hj (by omega)).keep h14 fun _ b _ hx => hd n j hx.symm
     ·exact (h7 j c hj (by omega)).keep h14 fun _ b _ hx => by have := hi _ _ hx; omega
     ·obtain ⟨h15, h16⟩ := h7k.own b k hb hx
      obtain ⟨h17, h18⟩ := h14.own b k h15 fun hh => hx ⟨n, hh⟩
      exact ⟨h17, h18.trans h16⟩
 obtain ⟨g', h1, h2, h3, h4, h5, h6, _, h7⟩ := key cs.length (Nat.le_refl _)
 exact ⟨g', h1, h2, h3, h4, h5, fun j c hj => h6 j c hj (List.getElem?_eq_some_iff.1 hj).1, h7⟩
def Ran (d nt : Nat) (e : Option Nat) (m : Nat) (S' : St) (g : G) (a : Act) (w : World) (t : Nat) (r : Result Next) : Prop :=
 ∃ g' v w', r = .ok (.value v) w' ∧ Rel d nt e S' g' (a.put (some t) v) w' ∧ Ext d m g w g' w'
theorem ran_val (h : Rel d nt e S g a w) {m t : Nat} (ht : t < nt) {p : PV} {v : Value} {r : Result Next} (hr : r = .ok (.value v) w) (hv : RepT g w (Key.tm d t) p v) :
  Ran d nt e m (S.setT t p) g a w t r := ⟨g, v, w, hr, h.setT ht hv, .refl _ _ _ _⟩
def RanQ (d nt : Nat) (e : Option Nat) (m : Nat) (S' : St) (g : G) (a : Act) (w : World) (t : Nat) (r : Result Next) : Prop :=
 ∃ g' v, r = .ok (.value v) w ∧ Rel d nt e S' g' (a.put (some t) v) w ∧ Ext d m g w g' w
theorem RanQ.ran {m t : Nat} {S' : St} {r : Result Next} (h : RanQ d nt e m S' g a w t r) : Ran d nt e m S' g a w t r := let ⟨g', v, h1, h2, h3⟩ := h; ⟨g', v, w, h1, h2, h3⟩
theorem ran_valQ (h : Rel d nt e S g a w) {m t : Nat} (ht : t < nt) {p : PV} {v : Value} {r : Result Next} (hr : r = .ok (.value v) w) (hv : RepT g w (Key.tm d t) p v) :
  RanQ d nt e m (S.setT t p) g a w t r := ⟨g, v, hr, h.setT ht hv, .refl _ _ _ _⟩
theorem ran_refQ (h : Rel d nt e S g a w) {m t : Nat} (ht : t < nt) {q : RV} {v : Value} {r : Result Next} (hr : r = .ok (.value v) w) (hv : RepR S g a w v q) (hs : ∀ s, q.src = some s → s.isVar t = false) :
  RanQ d nt e m (S.setR t q) g a w t r := ⟨g, v, hr, h.setR ht hv hs, .refl _ _ _ _⟩
theorem mine_tm {m t i : Nat} : Mine d m g w (.tm d t i) := Nat.le_refl d
theorem free_gone {t i : Nat} : Free d (S.setT t .gone) g (.tm d t i) := by
 refine ⟨fun t' p j hk hl => ?_, fun _ _ _ _ hk => by simp at hk, fun _ _ _ _ hk => by simp at hk, fun _ _ hk => by simp at hk⟩
 simp only [Key.tm.injEq, true_and] at hk
 obtain ⟨rfl, rfl⟩ := hk
 have hl : lk ((t, PV.gone) :: S.tm) t = some p := hl
 rw [lk_cons, if_pos rfl] at hl
 simp only [Option.some.injEq] at hl
 subst hl
 exact olT_gone _
def usE (p : PV) (v : Value) (j : Nat) : Value :=
 match p with
 | .st _ => (v.cells[j]?).getD undef
 | _ => v
def usT : List PV → List Value → Nat → Value
 | p :: r, u :: us, n => if n < p.ks.length then usE p u n else usT r us (n - p.ks.length)
 | _, _, _ => undef
theorem usT_at : ∀ (vs : List PV) (us : List Value) (i : Nat) {p : PV} {u : Value} {j : Nat} {c : PV}, vs[i]? = some p → us[i]? = some u → p.ks[j]? = some c → usT vs us (offs vs i + j) = usE p u j := by
 intro vs
 induction vs with
 | nil => intro us i p u j c hi; simp at hi
 | cons q r ih =>
  intro us i p u j c hi hu hj
  cases us with
  | nil => simp at hu
  | cons x us =>
   have hlt := (List.getElem?_eq_some_iff.1 hj).1
   cases i with
   | zero =>
    simp only [List.getElem?_cons_zero, Option.some.injEq] at hi hu
    subst hi hu
    rw [show offs (q :: r) 0 = 0 from rfl, Nat.zero_add]
    simp only [usT]
    rw [if_pos hlt]
   | succ i =>
    simp only [List.getElem?_cons_succ] at hi hu
    rw [show offs (q :: r) (i + 1) = q.ks.length + offs r i from rfl]
    simp only [usT]
    rw [if_neg (by omega), show q.ks.length + offs r i + j - q.ks.length = offs r i + j by omega]
    exact ih us i hi hu hj
theorem repV_move {p : PV} {v : Value} {κ κ' : Key} (hl : p.isLoc = false ∨ g'.lb = g.lb) (h : RepV g w κ p v) (hG : Grow g g') (hc : isOl p = true → RepC g' w' κ' p v) : RepV g' w' κ' p v := by
 cases p with
 | st cs => obtain ⟨A, h1, h2, h3⟩ := h; exact ⟨A, h1, h2, h3.mono hG⟩
 | ad b off => cases b with
  | loc t =>
   rcases hl with hl | hl
   ·simp [PV.isLoc] at hl
   ·simp only [RepV] at h ⊢; rw [hl]; exact h
  | obj i => exact RepF.mono hG h
 | ol T xs => exact hc rfl
 | mp U es => exact hc rfl
 | gone => trivial
 | _ => exact RepF.mono hG h
theorem repE_split {p : PV} {v : Value} {κ : Nat → Key} (h : RepE g w κ p v) : (∀ j c, p.ks[j]? = some c → RepC g w (κ j) c (usE p v j)) ∧
  ∀ (g' : G) (w' : World) (κ' : Nat → Key), Grow g g' → (p.isLoc = false ∨ g'.lb = g.lb) → (∀ j c, p.ks[j]? = some c → RepC g' w' (κ' j) c (usE p v j)) → RepE g' w' κ' p v := by
 have single : (∀ cs, p ≠ .st cs) → RepV g w (κ 0) p v → p.ks = [bif isOl p then p else .gone] → (∀ j, usE p v j = v) → (∀ (g' : G) (w' : World) (κ' : Nat → Key), RepV g' w' (κ' 0) p v → RepE g' w' κ' p v) →
   (∀ j c, p.ks[j]? = some c → RepC g w (κ j) c (usE p v j)) ∧
   ∀ (g' : G) (w' : World) (κ' : Nat → Key), Grow g g' → (p.isLoc = false ∨ g'.lb = g.lb) → (∀ j c, p.ks[j]? = some c → RepC g' w' (κ' j) c (usE p v j)) → RepE g' w' κ' p v := by
  intro _ hv hk hu hT
  refine ⟨fun j c hj => ?_, fun g' w' κ' hG hno hc => hT g' w' κ' (repV_move hno hv hG fun ho => ?_)⟩
  ·rw [hk] at hj
   rw [hu]
   cases j with
   | zero =>
    simp only [List.getElem?_cons_zero, Option.some.injEq] at hj
    subst hj
    cases ho : isOl p with
    | false => trivial
    | true => cases p <;> simp [isOl, isLs] at ho <;> exact hv
   | succ j => simp at hj
  ·have := hc 0 p (by rw [hk, ho]; rfl)
   rw [hu] at this
   exact this
 cases p with
 | st cs =>
  obtain ⟨A, h1, h2, h3⟩ := h
  subst h1
  refine ⟨fun j c hj => ?_, fun g' w' κ' hG _ hc => ⟨A, rfl, h2, fun j c hj => ?_⟩⟩
  ·obtain ⟨u, h4, h5⟩ := h3 j c hj
   simp only [usE, Value.cells, h4, Option.getD_some]; exact h5
  ·obtain ⟨u, h4, _⟩ := h3 j c hj
   have := hc j c hj
   simp only [usE, Value.cells, h4, Option.getD_some] at this
   exact ⟨u, h4, this⟩
 | ad b off => exact single (by simp) h rfl (fun _ => rfl) (fun _ _ _ h => h)
 | _ => exact single (by simp) h rfl (fun _ => rfl) (fun _ _ _ h => h)
def locs : PV → Bool
 | .ad (.loc _) _ => true
 | .tup vs => vs.any fun p => p.isLoc
 | _ => false
theorem repT_split' {p : PV} {v : Value} {κ : Nat → Key} (h : RepT g w κ p v) : ∃ us : Nat → Value, (∀ j c, p.keys[j]? = some c → RepC g w (κ j) c (us j)) ∧
  ∀ (g' : G) (w' : World) (κ' : Nat → Key), Grow g g' → (locs p = false ∨ g'.lb = g.lb) → (∀ j c, p.keys[j]? = some c → RepC g' w' (κ' j) c (us j)) → RepT g' w' κ' p v := by
 have single : (∀ vs, p ≠ .tup vs) → RepE g w κ p v → p.keys = p.ks → (∀ (g' : G) (w' : World) (κ' : Nat → Key), RepE g' w' κ' p v → RepT g' w' κ' p v) → (locs p = false → p.isLoc = false) →
   ∃ us : Nat → Value, (∀ j c, p.keys[j]? = some c → RepC g w (κ j) c (us j)) ∧
   ∀ (g' : G) (w' : World) (κ' : Nat → Key), Grow g g' → (locs p = false ∨ g'.lb = g.lb) → (∀ j c, p.keys[j]? = some c → RepC g' w' (κ' j) c (us j)) → RepT g' w' κ' p v := by
  intro _ hv hk hT hl
  obtain ⟨h1, h2⟩ := repE_split hv
  exact ⟨usE p v, by rw [hk]; exact h1, fun g' w' κ' hG hno hc => hT g' w' κ' (h2 g' w' κ' hG (hno.imp hl id) (by rw [hk] at hc; exact hc))⟩
 cases p with
 | tup vs =>
  obtain ⟨A, h1, h2, h3⟩ := h
  refine ⟨usT vs A.toList, fun n c hn => ?_, fun g' w' κ' hG hno hc => ⟨A, h1, h2, fun i p hi => ?_⟩⟩
  ·obtain ⟨i, p, j, h4, h5, rfl⟩ := keys_of vs n hn
   obtain ⟨u, h6, h7⟩ := h3 i p h4
   rw [usT_at vs A.toList i h4 (by rw [Array.getElem?_toList]; exact h6) h5]
   exact (repE_split h7).1 j c h5
  ·obtain ⟨u, h6, h7⟩ := h3 i p hi
   refine ⟨u, h6, (repE_split h7).2 g' w' _ hG ?_ fun j c hj => ?_⟩
   ·rcases hno with hno | hno
    ·left
     have hno : (vs.any fun p => p.isLoc) = false := hno
     rw [List.any_eq_false] at hno
     have := hno p (List.mem_of_getElem? hi)
     simpa using this
    ·exact .inr hno
   ·have := hc (offs vs i + j) c (keys_at vs i hi hj)
    rw [usT_at vs A.toList i hi (by rw [Array.getElem?_toList]; exact h6) hj] at this
    exact this
 | st cs => exact single (by simp) h rfl (fun _ _ _ h => h) (fun _ => rfl)
 | ad b off => exact single (by simp) h rfl (fun _ _ _ h => h) (by cases b <;> simp [locs, PV.isLoc])
 | _ => exact single (by simp) h rfl (fun _ _ _ h => h) (fun _ => rfl)
theorem ran_takeQ (h : Rel d nt e S g a w) {m t u : Nat} (ht : t < nt) (htu : u ≠ t) {p : PV} (hp : p.okM = true) (hu : lk S.tm u = some p) {r : Result Next} (hr : r = .ok (.value (a.tmps.getD u undef)) w) :
  RanQ d nt e m ((S.setT u .gone).setT t p) g a w t r := by
 obtain ⟨h1, h2⟩ := h.tm u _ hu
 have hg := h.gone h1
 obtain ⟨us, h3, h4⟩ := repT_split' h2
 obtain ⟨g', h6, h7, h8, h9, h10, h11, h12⟩ := hg.moveCells (m := m) p.keys us (fun j => .tm d u j) (fun j => .tm d t j) (fun _ => mine_tm) (fun _ => mine_tm) (fun _ _ => free_gone)
  (fun i j hij => by simpa using hij) (fun i j hij => by simp only [Key.tm.injEq, true_and] at hij; exact htu hij.1) h3
 exact ⟨g', _, hr, h6.setT ht (h4 g' w _ h12.gr (.inr h10) h11), h7⟩
theorem ran_take (h : Rel d nt e S g a w) {m t u : Nat} (ht : t < nt) (htu : u ≠ t) {p : PV} (hp : p.okM = true) (hu : lk S.tm u = some p) {r : Result Next} (hr : r = .ok (.value (a.tmps.getD u undef)) w) :
  Ran d nt e m ((S.setT u .gone).setT t p) g a w t r := (ran_takeQ h ht htu hp hu hr).ran
theorem opMove_ran {F : Fx} {t m : Nat} {x : Operand} {S' : St} (ht : t < nt) (h : Rel d nt e S g a w) (ho : opMove F t x S = some S') {o : Oper} (hop : o.op = .move x) :
  RanQ d nt e m S' g a w t ((execOp a.eval o).run P w) := by
 have hr : (execOp a.eval o).run P w = .ok (.value (a.eval x)) w := by simp [execOp, hop]
 unfold opMove at ho
 split at ho
 ·rename_i p hx
  cases hd : p.dup with
  | true =>
   simp only [hd, cond_true, Option.some.injEq] at ho
   subst ho
   exact ran_valQ h ht hr (opv_dup h hx hd _)
  | false =>
   simp only [hd, cond_false] at ho
   split at ho
   ·rename_i u _
    cases hg : (p.okM && !Nat.beq u t) with
    | false => simp [hg] at ho
    | true =>
     simp only [hg, cond_true, Option.some.injEq] at ho
     subst ho
     simp only [Bool.and_eq_true, Bool.not_eq_true'] at hg
     exact ran_takeQ h ht (beq_false hg.2) hg.1 hx hr
   ·rename_i u _
    split at ho
    case h_3 => simp at ho
    case h_2 =>
     rename_i U es
     cases hb : Nat.beq u t with
     | true => simp [hb] at ho
     | false =>
      simp only [hb, cond_false, Option.some.injEq] at ho
      subst ho
      have h1 := h.tm u _ hx
      refine ran_refQ h ht hr ⟨U, es, hx, ?_⟩ fun s hs => ?_
      ·simp only [hdr, Act.eval, Array.getD_eq_getD_getElem?]
       rw [Array.getElem?_eq_getElem (by rw [h.sz]; exact h1.1)]
       rfl
      ·simp only [RV.src, Option.some.injEq] at hs
       subst hs
       exact hb
    rename_i T xs
    cases hb : Nat.beq u t with
    | true => simp [hb] at ho
    | false =>
     simp only [hb, cond_false, Option.some.injEq] at ho
     subst ho
     have h1 := h.tm u _ hx
     refine ran_refQ h ht hr ⟨?_, fun s hs => ?_⟩ fun s hs => ?_
     ·obtain ⟨vs, h2, h3, h4⟩ := h1.2
      rcases h2.2 with ⟨h5, h6⟩ | ⟨b, cap, cur, h5, _, h7, h8, _, h9, h10⟩
      ·exact .inl ⟨List.eq_nil_of_length_eq_zero h6, h5⟩
      ·refine .inr ⟨b, 0, cap, cur, T, h5, h8, h7, ⟨_, h3 b (by show Value.ownBlock (a.tmps.getD u undef) = _; rw [h5]; rfl), trivial⟩, fun i x hi j c hj => ?_⟩
       obtain ⟨y, h11, h12⟩ := h4 i x hi j c hj
       refine ⟨y, ?_, h12⟩
       rw [← h10] at h11
       simp only [List.getElem?_toArray, List.getElem?_take] at h11
       split at h11
       ·simpa using h11
       ·simp at h11
     ·simp only [Option.some.injEq] at hs
      subst hs
      refine ⟨hx, ?_⟩
      simp only [hdr, Act.eval, Array.getD_eq_getD_getElem?]
      rw [Array.getElem?_eq_getElem (by rw [h.sz]; exact h1.1)]
      rfl
     ·simp only [RV.src, Option.some.injEq] at hs
      subst hs
      exact hb
   ·simp at ho
 ·simp at ho
theorem opAssign_ran {t m : Nat} {x : Operand} {S' : St} (ht : t < nt) (h : Rel d nt e S g a w) (ho : opAssign t x S = some S') {o : Oper} (hop : o.op = .assign x) :
  Ran d nt e m S' g a w t ((execOp a.eval o).run P w) := by
 have hr : (execOp a.eval o).run P w = .ok (.value (a.eval x)) w := by simp [execOp, hop]
 unfold opAssign at ho
 split at ho
 ·rename_i p hx
  cases hd : p.dup with
  | true =>
   simp only [hd, cond_true, Option.some.injEq] at ho
   subst ho
   exact ran_val h ht hr (opv_dup h hx hd _)
  | false =>
   simp only [hd, cond_false] at ho
   split at ho
   ·rename_i u
    cases hg : (p.okM && !Nat.beq u t) with
    | false => simp [hg] at ho
    | true =>
     simp only [hg, cond_true, Option.some.injEq] at ho
     subst ho
     simp only [Bool.and_eq_true, Bool.not_eq_true'] at hg
     exact ran_take h ht (beq_false hg.2) hg.1 hx hr
   ·simp at ho
 ·simp at ho
theorem eval_b (h : Rel d nt e S g a w) {x : Operand} {c : Bool} (hx : S.opv x = some (.b c)) : a.eval x = .bool c := by
 have := opv_dup h hx rfl (fun _ => .obj)
 generalize a.eval x = v at this ⊢
 cases this; rfl
theorem eval_i (h : Rel d nt e S g a w) {x : Operand} {k : IntKind} {n : Int} (hx : S.opv x = some (.i k n)) : a.eval x = .int k n := by
 have := opv_dup h hx rfl (fun _ => .obj)
 generalize a.eval x = v at this ⊢
 cases this; rfl
theorem eval_s (h : Rel d nt e S g a w) {x : Operand} {c : ByteArray} (hx : S.opv x = some (.s c)) : a.eval x = .string c := by
 have := opv_dup h hx rfl (fun _ => .obj)
 generalize a.eval x = v at this ⊢
 cases this; rfl
theorem opPick_ran {t m : Nat} {c x y : Operand} {S' : St} (ht : t < nt) (h : Rel d nt e S g a w) (ho : opPick t c x y S = some S') {o : Oper} (hop : o.op = .pick c x y) :
  Ran d nt e m S' g a w t ((execOp a.eval o).run P w) := by
 unfold opPick at ho
 split at ho
 ·rename_i hc
  have hr : (execOp a.eval o).run P w = .ok (.value (a.eval x)) w := by simp [execOp, hop, eval_b h hc, asBool]
  split at ho
  ·rename_i p hx
   cases hd : p.dup with
   | false => simp [hd] at ho
   | true =>
    simp only [hd, cond_true, Option.some.injEq] at ho
    subst ho
    exact ran_val h ht hr (opv_dup h hx hd _)
  ·simp at ho
 ·rename_i hc
  have hr : (execOp a.eval o).run P w = .ok (.value (a.eval y)) w := by simp [execOp, hop, eval_b h hc, asBool]
  split at ho
  ·rename_i p hx
   cases hd : p.dup with
   | false => simp [hd] at ho
   | true =>
    simp only [hd, cond_true, Option.some.injEq] at ho
    subst ho
    exact ran_val h ht hr (opv_dup h hx hd _)
  ·simp at ho
 ·simp at ho
theorem int?_eval (h : Rel d nt e S g a w) {x : Operand} {n : Int} (hx : S.int? x = some n) : ∃ k, a.eval x = .int k n := by
 unfold St.int? at hx
 split at hx
 ·rename_i k m hm
  simp only [Option.some.injEq] at hx
  subst hx
  exact ⟨k, eval_i h hm⟩
 ·simp at hx
theorem kEq_eq {k k' : IntKind} (h : kEq k k' = true) : k = k' := by cases k <;> cases k' <;> simp_all [kEq]
theorem binI_run {op : BinOp} {k : IntKind} {x y : Int} {c : Bool} {p : PV} (h : binI op k x y = some (c, p)) (hc : c = true) (hop : op ≠ .shl ∧ op ≠ .shr) (t : Nat) :
  ∃ v, (Go.binOp op t (.int k x) (.int k y)).run P w = .ok v w ∧ RepF g p v ∧ p.plain = true := by
 subst hc
 cases op <;> simp only [binI, Option.some.injEq, Prod.mk.injEq, reduceCtorEq, bne_iff_ne, ne_eq, true_and] at h
 ·subst h; exact ⟨.int k (k.wrap (x + y)), by simp [Go.binOp, Op.intArith], .i _ _, rfl⟩
 ·subst h; exact ⟨.int k (k.wrap (x - y)), by simp [Go.binOp, Op.intArith], .i _ _, rfl⟩
 ·subst h; exact ⟨.int k (k.wrap (x * y)), by simp [Go.binOp, Op.intArith], .i _ _, rfl⟩
 ·obtain ⟨h1, rfl⟩ := h; exact ⟨.int k (k.wrap (x.tdiv y)), by simp [Go.binOp, Op.intDiv, h1], .i _ _, rfl⟩
 ·obtain ⟨h1, rfl⟩ := h; exact ⟨.int k (x.tmod y), by simp [Go.binOp, Op.intDiv, h1], .i _ _, rfl⟩
 ·subst h; exact ⟨.int k (bitAnd k x y), by simp [Go.binOp, Op.intBits, bitAnd], .i _ _, rfl⟩
 ·subst h; exact ⟨.int k (bitOr k x y), by simp [Go.binOp, Op.intBits, bitOr], .i _ _, rfl⟩
 ·subst h; exact ⟨.int k (bitXor k x y), by simp [Go.binOp, Op.intBits, bitXor], .i _ _, rfl⟩
 ·subst h; exact ⟨.bool (x == y), by simp [Go.binOp, Op.intCmp], .b _, rfl⟩
 ·subst h; exact ⟨.bool (x != y), by simp [Go.binOp, Op.intCmp], .b _, rfl⟩
 ·subst h; exact ⟨_, by simp [Go.binOp, Op.intCmp], .b _, rfl⟩
 ·subst h; exact ⟨_, by simp [Go.binOp, Op.intCmp], .b _, rfl⟩
 ·subst h; exact ⟨_, by simp [Go.binOp, Op.intCmp], .b _, rfl⟩
 ·subst h; exact ⟨_, by simp [Go.binOp, Op.intCmp], .b _, rfl⟩
theorem binS_run {op : BinOp} {x y : ByteArray} {c : Bool} {p : PV} (h : binS op x y = some (c, p)) (hc : c = true) (t : Nat) :
  ∃ v, (Go.binOp op t (.string x) (.string y)).run P w = .ok v w ∧ RepF g p v ∧ p.plain = true := by
 subst hc
 cases op <;> simp only [binS, Option.some.injEq, Prod.mk.injEq, reduceCtorEq, decide_eq_true_eq, true_and] at h
 ·obtain ⟨h1, rfl⟩ := h
  have h2 : ¬ ((x.size + y.size : Nat) : Int) > IntKind.i64.max := by
   have : IntKind.i64.max = 9223372036854775807 := by decide
   rw [this]; omega
  exact ⟨.string (x ++ y), by simp only [Go.binOp, Op.stringOp, Sem.run_ite, if_neg h2]; rfl, .s _, rfl⟩
 ·subst h; exact ⟨.bool (bEq x y), by simp [Go.binOp, Op.stringOp, bEq], .b _, rfl⟩
 ·subst h; exact ⟨.bool (!bEq x y), by simp [Go.binOp, Op.stringOp, bEq], .b _, rfl⟩
 ·subst h; exact ⟨.bool (bLt x y), by simp [Go.binOp, Op.stringOp, bLt], .b _, rfl⟩
 ·subst h; exact ⟨.bool (bLt x y || bEq x y), by simp [Go.binOp, Op.stringOp, bEq, bLt], .b _, rfl⟩
 ·subst h; exact ⟨.bool (!(bLt x y || bEq x y)), by simp [Go.binOp, Op.stringOp, bEq, bLt], .b _, rfl⟩
 ·subst h; exact ⟨.bool (!bLt x y), by simp [Go.binOp, Op.stringOp, bEq, bLt], .b _, rfl⟩
end
end
section
section
variable [Enc] {d nt : Nat} {e : Option Nat} {S : St} {g g' : G} {a : Act} {w w' : World} {P : Program}
theorem sem_underlying {t : TypeId} {td : TypeDesc} (h : P.underlying t = some td) (w : World) : (underlying t).run P w = .ok td w := run_underlying h w
def FlatOk (P : Program) (t : Nat) (z : List PV) : Prop :=
 (P.eqGuardType P.depth t = false) ∧ ∀ (g : G) (w : World) (A B : Array Value) (cs ds : List PV) (r : Bool), A.size = cs.length → B.size = ds.length → CellsAt g A 0 cs → CellsAt g B 0 ds → shps z cs = true → shps z ds = true → eqCs cs ds = some r →
  (Op.equal t (.agg A) (.agg B)).run P w = .ok r w
theorem shps_plain : ∀ {zs cs : List PV}, shps zs cs = true → cs.all PV.plain = true := by
 intro zs
 induction zs with
 | nil => intro cs h; cases cs <;> simp_all [shps]
 | cons z zs ih =>
  intro cs h
  cases cs with
  | nil => simp [shps] at h
  | cons c cs =>
   simp only [shps, Bool.and_eq_true] at h
   simp only [List.all_cons, Bool.and_eq_true]
   refine ⟨?_, ih h.2⟩
   have := h.1
   unfold shp at this
   split at this <;> first | rfl | simp at this
theorem eqGuard_plain {op : BinOp} {t : TypeId} {x y : Operand} {u v : Value} (h : (match u, v with | .nilIface, .nilIface => False | .agg _, .agg _ => False | _, _ => True)) : (eqGuard op t x y u v).run P w = .ok () w := by
 have he : ∀ op, (op = .eql ∨ op = .neq) → (eqGuard op t x y u v).run P w = .ok () w := by
  intro op ho
  rcases ho with rfl | rfl
  all_goals
   dsimp only [eqGuard]
   simp only [Bool.not_true, Bool.false_eq_true, if_false]
   split
   ·exact h.elim
   ·exact h.elim
   ·rfl
 cases op with
 | eql => exact he _ (.inl rfl)
 | neq => exact he _ (.inr rfl)
 | _ => rfl
theorem equal_ptr {t el : Nat} (ht : P.underlying t = some (.pointer el)) (x : Option Addr) : (Op.equal t (.pointer x) (.pointer none)).run P w = .ok x.isNone w := by
 show (Op.equalIn (9999 + 1) t _ _).run P w = _
 unfold Op.equalIn
 rw [Sem.run_bind, sem_underlying ht]
 cases x <;> rfl
theorem equal_slice {t el : Nat} (ht : P.underlying t = some (.slice el)) (x : Option Addr) (l c : Nat) : (Op.equal t (.slice x l c) (.slice none 0 0)).run P w = .ok x.isNone w := by
 show (Op.equalIn (9999 + 1) t _ _).run P w = _
 unfold Op.equalIn
 rw [Sem.run_bind, sem_underlying ht]
 cases x <;> rfl
theorem equal_bool {t : Nat} (ht : P.underlying t = some .bool) (x y : Bool) : (Op.equal t (.bool x) (.bool y)).run P w = .ok (x == y) w := by
 show (Op.equalIn (9999 + 1) t _ _).run P w = _
 unfold Op.equalIn
 rw [Sem.run_bind, sem_underlying ht]
 rfl
theorem plain_T {p : PV} (hp : p.plain = true) {v : Value} (h : RepF g p v) (κ : Nat → Key) : RepT g w κ p v := by
 cases p with
 | ad b off => cases b with
  | loc u => simp [PV.plain] at hp
  | obj i => exact h
 | _ => first | exact h | simp [PV.plain] at hp
theorem eval_np (h : Rel d nt e S g a w) {x : Operand} (hx : S.opv x = some .np) : a.eval x = .pointer none := by
 have := opv_dup h hx rfl (fun _ => .obj)
 generalize a.eval x = v at this ⊢
 cases this; rfl
theorem eval_nl (h : Rel d nt e S g a w) {x : Operand} (hx : S.opv x = some .nl) : a.eval x = .slice none 0 0 := by
 have := opv_dup h hx rfl (fun _ => .obj)
 generalize a.eval x = v at this ⊢
 cases this; rfl
theorem binOp_eql {u v : Value} {t : Nat} (h : match u, v with | .int _ _, .int _ _ | .float _ _, .float _ _ | .complex _ _ _, .complex _ _ _ | .string _, .string _ => False | _, _ => True) :
  Go.binOp .eql t u v = (do pure (.bool (← Op.equal t u v))) ∧ Go.binOp .neq t u v = (do pure (.bool (!(← Op.equal t u v)))) := by
 cases u <;> cases v <;> first | exact ⟨rfl, rfl⟩ | exact h.elim
theorem bin_run {T : Tab} (hT : TabOk P T) (hF : ∀ t z, T.flat t = some z → FlatOk P t z) {ty : Nat} {op : BinOp} {x y : Operand} {p q r : PV} (h : Rel d nt e S g a w)
  (hx : S.opv x = some p) (hy : S.opv y = some q) (ho : binP T op ty p q = some (true, r)) :
  ∃ v, (Go.binOp op ty (a.eval x) (a.eval y)).run P w = .ok v w ∧ (eqGuard op ty x y (a.eval x) (a.eval y)).run P w = .ok () w ∧ RepF g r v ∧ r.plain = true := by
 have hp := opv_rep h hx
 have hq := opv_rep h hy
 have eqs : ∀ (u v : Value) (b : Bool), (match u, v with | .int _ _, .int _ _ | .float _ _, .float _ _ | .complex _ _ _, .complex _ _ _ | .string _, .string _ => False | _, _ => True) →
   (Op.equal ty u v).run P w = .ok b w → (Go.binOp .eql ty u v).run P w = .ok (.bool b) w ∧ (Go.binOp .neq ty u v).run P w = .ok (.bool (!b)) w := by
  intro u v b h1 h2
  have h3 := binOp_eql (t := ty) h1
  exact ⟨by rw [h3.1]; simp [h2], by rw [h3.2]; simp [h2]⟩
 have eqo : ∀ (u v : Value) (b : Bool), (match u, v with | .int _ _, .int _ _ | .float _ _, .float _ _ | .complex _ _ _, .complex _ _ _ | .string _, .string _ => False | _, _ => True) →
   (Op.equal ty u v).run P w = .ok b w → eqOp op b = some (true, r) → ∃ z, (Go.binOp op ty u v).run P w = .ok z w ∧ RepF g r z ∧ r.plain = true := by
  intro u v b h1 h2 h3
  have h4 := eqs u v b h1 h2
  cases op <;> simp only [eqOp, Option.some.injEq, Prod.mk.injEq, true_and, reduceCtorEq] at h3
  ·subst h3; exact ⟨_, h4.1, .b _, rfl⟩
  ·subst h3; exact ⟨_, h4.2, .b _, rfl⟩
 unfold binP at ho
 split at ho
 ·rename_i k a1 k' b1
  rw [eval_i h hx, eval_i h hy]
  unfold binN at ho
  split at ho
  ·simp only [Option.some.injEq, Prod.mk.injEq, decide_eq_true_eq] at ho
   obtain ⟨h1, rfl⟩ := ho
   exact ⟨_, by simp [Go.binOp, Op.shift, Int.not_lt.2 h1]; rfl, eqGuard_plain trivial, .i _ _, rfl⟩
  ·simp only [Option.some.injEq, Prod.mk.injEq, decide_eq_true_eq] at ho
   obtain ⟨h1, rfl⟩ := ho
   exact ⟨_, by simp [Go.binOp, Op.shift, Int.not_lt.2 h1]; rfl, eqGuard_plain trivial, .i _ _, rfl⟩
  ·rename_i h1 h2
   cases hk : kEq k k' with
   | false => simp [hk] at ho
   | true =>
    simp only [hk, cond_true] at ho
    have hk' := kEq_eq hk
    subst hk'
    obtain ⟨v, h3, h4, h5⟩ := binI_run (P := P) (w := w) (g := g) ho rfl ⟨fun hh => h1 hh, fun hh => h2 hh⟩ ty
    exact ⟨v, h3, eqGuard_plain trivial, h4, h5⟩
 ·rw [eval_s h hx, eval_s h hy]
  obtain ⟨v, h3, h4, h5⟩ := binS_run (P := P) (w := w) (g := g) ho rfl ty
  exact ⟨v, h3, eqGuard_plain trivial, h4, h5⟩
 ·split at ho
  ·rename_i hK
   rw [eval_b h hx, eval_b h hy]
   obtain ⟨z, h1, h2, h3⟩ := eqo _ _ _ trivial (equal_bool (hT.bool _ hK) _ _) ho
   exact ⟨z, h1, eqGuard_plain trivial, h2, h3⟩
  ·simp at ho
 ·rename_i cs ds
  cases hz : T.flat ty with
  | none => simp [hz] at ho
  | some z0 =>
  simp only [hz] at ho
  cases hff : (shps z0 cs && shps z0 ds) with
  | false => simp [hff] at ho
  | true =>
   simp only [hff, cond_true] at ho
   simp only [Bool.and_eq_true] at hff
   obtain ⟨hsc, hsd⟩ := hff
   have hpc := shps_plain hsc
   have hpd := shps_plain hsd
   unfold obind at ho
   split at ho
   ·rename_i b hb
    obtain ⟨A, h1, h2, h3⟩ := hp
    obtain ⟨B, h4, h5, h6⟩ := hq
    rw [h1, h4]
    obtain ⟨h7, h8⟩ := hF ty z0 hz
    have toF : ∀ {cs : List PV} {A : Array Value} {κ : Nat → Key}, cs.all PV.plain = true → (∀ (j : Nat) (c : PV), cs[j]? = some c → ∃ u, A[j]? = some u ∧ RepC g w (κ j) c u) → CellsAt g A 0 cs :=
     fun hp h j c hj => let ⟨u, h1, h2⟩ := h j c hj; ⟨u, by rw [Nat.zero_add]; exact h1, (plain_key (all_plain hp hj)).1 h2⟩
    obtain ⟨z, h9, h10, h11⟩ := eqo _ _ _ trivial (h8 g w A B cs ds b h2 h5 (toF hpc h3) (toF hpd h6) hsc hsd hb) ho
    refine ⟨z, h9, ?_, h10, h11⟩
    have hg : ∀ op, (eqGuard op ty x y (.agg A) (.agg B)).run P w = .ok () w := by
     intro op
     unfold eqGuard
     simp [h7]
    exact hg op
   ·simp at ho
 ·split at ho
  ·rename_i el hK
   unfold obind at ho
   split at ho
   ·rename_i b hb
    rw [eval_np h hy]
    have hv : ∃ z : Option Addr, a.eval x = .pointer z ∧ z.isNone = b := by
     generalize a.eval x = v at hp ⊢
     cases p with
     | np => cases hp; simp only [nilP, Option.some.injEq] at hb; subst hb; exact ⟨none, rfl, rfl⟩
     | ad bs off =>
      simp only [nilP, Option.some.injEq] at hb; subst hb
      cases bs with
      | loc u => simp only [RepT, RepV] at hp; exact ⟨_, hp, rfl⟩
      | obj i => cases hp; exact ⟨_, rfl, rfl⟩
     | slf T i b =>
      simp only [nilP, Option.some.injEq] at hb; subst hb
      have hp : RepF g (.slf T i b) v := hp
      cases hp with
      | slf _ _ _ hT hi => exact ⟨_, rfl, by cases b <;> rfl⟩
     | fa T x off =>
      simp only [nilP, Option.some.injEq] at hb; subst hb
      obtain ⟨bk, o, C, h1, _⟩ := repF_fa hp
      exact ⟨_, h1, rfl⟩
     | fp T x =>
      simp only [nilP, Option.some.injEq] at hb; subst hb
      have hp : RepF g (.fp T x) v := hp
      cases hp with
      | fpN => exact ⟨_, rfl, rfl⟩
      | fpS _ y _ h1 => obtain ⟨bk, o, C, h2, _⟩ := repF_fa h1; exact ⟨_, h2, rfl⟩
     | _ => simp [nilP] at hb
    obtain ⟨z, h2, h3⟩ := hv
    rw [h2]
    obtain ⟨y', h4, h5, h6⟩ := eqo _ _ _ trivial (equal_ptr (hT.ptr _ _ hK) z) (by rw [h3]; exact ho)
    exact ⟨y', h4, eqGuard_plain trivial, h5, h6⟩
   ·simp at ho
  ·simp at ho
 ·split at ho
  ·rename_i el hK
   split at ho
   ·rename_i c b hb
    rw [eval_nl h hy]
    simp only [Option.map_eq_some_iff, Prod.mk.injEq] at ho
    obtain ⟨⟨c', r'⟩, ho, rfl, rfl⟩ := ho
    have hc' : c' = true := by cases op <;> simp [eqOp] at ho <;> exact ho.1
    subst hc'
    have hlist : ∀ {T : Nat} {xs : List (Dn T)} {v : Value}, xs.isEmpty = false → RepF g (.fl T xs) v → ∃ z l k, v = .slice z l k ∧ z.isNone = false := by
     intro T xs v hx hv
     cases hv with
     | fl0 => simp at hx
     | fl _ _ A off cap => exact ⟨_, _, _, rfl, rfl⟩
    have hv : ∃ z l k, a.eval x = .slice z l k ∧ z.isNone = b := by
     generalize a.eval x = v at hp ⊢
     cases p with
     | nl => cases hp; simp only [nilL, Option.some.injEq, Prod.mk.injEq, true_and] at hb; subst hb; exact ⟨none, 0, 0, rfl, rfl⟩
     | fl T xs =>
      simp only [nilL, Option.some.injEq, Prod.mk.injEq, Bool.not_eq_true'] at hb
      obtain ⟨h1, rfl⟩ := hb
      exact hlist h1 hp
     | fo T o =>
      simp only [nilL, Option.some.injEq, Prod.mk.injEq] at hb
      obtain ⟨h1, rfl⟩ := hb
      have hp : RepF g (.fo T o) v := hp
      cases hp with
      | foN => exact ⟨none, 0, 0, rfl, rfl⟩
      | foS _ xs _ h2 => exact hlist (by simpa [foC] using h1) h2
     | _ => simp [nilL] at hb
    obtain ⟨z, l, k, h2, rfl⟩ := hv
    rw [h2]
    obtain ⟨y', h4, h5, h6⟩ := eqo _ _ _ trivial (equal_slice (hT.slice _ _ hK).1 z l k) ho
    exact ⟨y', h4, eqGuard_plain trivial, h5, h6⟩
   ·simp at ho
  ·simp at ho
 ·simp at ho
end
end
end Go.KM
