/- Contracts of base functions; what a row lays. Conditions: none. -/
import Derived.Test.YtdhkmgloghlnnaaGreatDoorKmZ
import Derived.Lib.LaidTab
import Derived.LaidLaws
import Derived.MakeChecks
namespace Go.KM
open Go Go.RowKit
open Fam (Dn dflt)
open Enc (cells sz mkE glob gany u8)
set_option autoImplicit false
set_option linter.unusedVariables false
set_option linter.unusedSimpArgs false
set_option linter.unusedSectionVars false
section
variable [Enc] {P : Program}
theorem WF.below {g : G} {w w' : World} (h : WF g w) (b : Below w.heap.size w w') : WF g w' := by
  refine ⟨h.gl, fun x κ hx => Nat.lt_of_lt_of_le (h.own x κ hx) b.size, fun x C hx => ?_, fun x b' j hx => Nat.lt_of_lt_of_le (h.ob x b' j hx) b.size, fun i hi => Nat.lt_of_lt_of_le (h.ol i hi) b.size, h.inj, h.oe_row (RowTy.of_same fun k hk => b.block k hk)⟩
  obtain ⟨h1, h2⟩ := h.fz x C hx
  refine ⟨h1, ?_⟩
  rw [b.block x (Array.getElem?_eq_some_iff.1 h2).1]
  exact h2
theorem con_base {f : FuncId} {ps : List PV} {v : PV}
    (h : ∀ (d : Nat) (g : G) (w : World) (vals : Array Value), vals.size = ps.length → (∀ i p, ps[i]? = some p → ∃ u, vals[i]? = some u ∧ RepV g w (.ar d i) p u) → WF g w →
      Calls P f vals w fun e w' => ∃ r, e = .returned r ∧ (∀ (g : G) (w' : World) (κ : Nat → Key), RepT g w' κ v r) ∧ Below w.heap.size w w') : Con P false f ps [] v [] := by
  intro d g w vals hs ha hM hN hw
  refine (h d g w vals hs ha hw).mono fun e w' ⟨r, h1, h2, hb⟩ => ⟨r, g, h1, h2 g w' _, fun i cs hi => by simp at hi, fun h => by simp at h, fun _ => rfl, hw.below hb, ?_⟩
  exact ⟨Grow.refl g, fun b κ hb' _ => ⟨hb', hb.block b (hw.own b κ hb')⟩, hb.size, fun i h1 h2 => by omega, ⟨hb.os, hb.tape, hb.output⟩⟩
theorem con_base_fl {f : FuncId} {ps : List PV} {T : Nat} {xs : List (Dn T)} (hs1 : sz T = 1)
    (h : ∀ (d : Nat) (g : G) (w : World) (vals : Array Value), vals.size = ps.length → (∀ i p, ps[i]? = some p → ∃ u, vals[i]? = some u ∧ RepV g w (.ar d i) p u) → WF g w →
      Calls P f vals w fun e w' => e = .returned (.slice (some ⟨w.heap.size, 0, none⟩) xs.length xs.length) ∧ ∃ (C : Array Value) (E : TypeId), w' = w.alloc (.cells C E) ∧
        ∀ (i : Nat) (x : Dn T), xs[i]? = some x → ∃ c v, cells T x = [c] ∧ C[i]? = some v ∧ ∀ g : G, RepF g c v) : Con P false f ps [] (.fl T xs) [] := by
  intro d g w vals hs ha hM hN hw
  refine (h d g w vals hs ha hw).mono fun e w' ⟨h1, C, E, h2, h3⟩ => ?_
  subst h2
  let g' : G := { g with fz := fun b => if b = w.heap.size then some C else g.fz b, fe := fun b => if b = w.heap.size then (E, (0, 0)) else g.fe b }
  have hlt : ∀ b C0, g.fz b = some C0 → b < w.heap.size := fun b C0 hb => (Array.getElem?_eq_some_iff.1 (hw.fz b C0 hb).2).1
  have hgr : Grow g g' := by
    refine ⟨fun b C0 hb => ?_, Nat.le_refl _, fun _ _ => rfl, fun b C0 hb => ?_, rfl, fun i hi => by
      have hne : g.oa i ≠ w.heap.size := by have := hw.ol i hi; omega
      show (if g.oa i = w.heap.size then (E, ((0, 0) : Nat × Nat)) else g.fe (g.oa i)).1 = _
      rw [if_neg hne]⟩
    · have := hlt b C0 hb
      show (if b = w.heap.size then some C else g.fz b) = some C0
      rw [if_neg (by omega)]; exact hb
    · have := hlt b C0 hb
      show (if b = w.heap.size then (E, (0, 0)) else g.fe b) = _
      rw [if_neg (by omega)]
  have hold : ∀ b, b < w.heap.size → (w.alloc (.cells C E)).heap[b]? = w.heap[b]? := fun b hb => Below.heap_alloc w _ b hb
  have hnew : (w.alloc (.cells C E)).heap[w.heap.size]? = some (.cells C E) := by
    show (w.heap.push _)[w.heap.size]? = _
    simp
  have hsz : w.heap.size ≤ (w.alloc (.cells C E)).heap.size := by show w.heap.size ≤ (w.heap.push _).size; simp
  have hwf : WF g' (w.alloc (.cells C E)) := by
    refine ⟨gl_mono hgr hw.gl, fun b κ hb => Nat.lt_of_lt_of_le (hw.own b κ hb) hsz, fun b C0 hb => ?_, fun b b' j hb => Nat.lt_of_lt_of_le (hw.ob b b' j hb) hsz, fun i hi => Nat.lt_of_lt_of_le (hw.ol i hi) hsz, hw.inj, fun i hi => by
      obtain ⟨k0, C0, fr, k1⟩ := hw.oe i hi
      have hne : g.oa i ≠ w.heap.size := by have := hw.ol i hi; omega
      refine ⟨k0, C0, fr, ?_⟩
      rw [hold _ (hw.ol i hi), k1]
      show _ = some (Obj.cells C0 (if g.oa i = w.heap.size then (E, ((0, 0) : Nat × Nat)) else g.fe (g.oa i)).1 fr)
      rw [if_neg hne]⟩
    have hb : (if b = w.heap.size then some C else g.fz b) = some C0 := hb
    by_cases hbs : b = w.heap.size
    · rw [if_pos hbs] at hb
      obtain rfl := Option.some.inj hb
      subst hbs
      refine ⟨?_, ?_⟩
      · show g.own w.heap.size = none
        cases ho : g.own w.heap.size with
        | none => rfl
        | some κ => exact absurd (hw.own _ κ ho) (Nat.lt_irrefl _)
      · rw [hnew]
        show _ = some (Obj.cells C (if w.heap.size = w.heap.size then (E, ((0, 0) : Nat × Nat)) else g.fe w.heap.size).1 (if w.heap.size = w.heap.size then (E, ((0, 0) : Nat × Nat)) else g.fe w.heap.size).2)
        rw [if_pos rfl]
    · rw [if_neg hbs] at hb
      obtain ⟨h4, h5⟩ := hw.fz b C0 hb
      refine ⟨h4, ?_⟩
      rw [hold b (hlt b C0 hb), h5]
      show _ = some (Obj.cells C0 (if b = w.heap.size then (E, ((0, 0) : Nat × Nat)) else g.fe b).1 (if b = w.heap.size then (E, ((0, 0) : Nat × Nat)) else g.fe b).2)
      rw [if_neg hbs]
  refine ⟨_, g', h1, ?_, fun i cs hi => by simp at hi, fun h => by simp at h, fun _ => rfl, hwf, ⟨hgr, fun b κ hb _ => ⟨hb, hold b (hw.own b κ hb)⟩, hsz, fun i h1 h2 => absurd (Nat.lt_of_le_of_lt h1 h2) (Nat.lt_irrefl _), ⟨rfl, rfl, rfl⟩⟩⟩
  show RepF g' (.fl T xs) _
  refine RepF.fl' (C := C) (fun _ => by show (if w.heap.size = w.heap.size then some C else _) = some C; rw [if_pos rfl]) (Nat.le_refl _) fun i x hi j c hj => ?_
  obtain ⟨c', v, h4, h5, h6⟩ := h3 i x hi
  rw [h4] at hj
  cases j with
  | succ j => simp at hj
  | zero =>
    simp only [List.getElem?_cons_zero, Option.some.injEq] at hj
    subst hj
    exact ⟨v, by rw [hs1]; simpa using h5, h6 g'⟩
theorem vals1 {g : G} {w : World} {d : Nat} {vals : Array Value} {p : PV} (hs : vals.size = 1) (ha : ∀ i q, [p][i]? = some q → ∃ u, vals[i]? = some u ∧ RepV g w (.ar d i) q u) : ∃ u, vals = #[u] ∧ RepV g w (.ar d 0) p u := by
  obtain ⟨u, h1, h2⟩ := ha 0 p rfl
  refine ⟨u, ?_, h2⟩
  apply Array.ext
  · simpa using hs
  · intro i hi hi'
    obtain rfl : i = 0 := by simpa using hi'
    simpa using (Array.getElem?_eq_some_iff.1 h1).2
theorem vals2 {g : G} {w : World} {d : Nat} {vals : Array Value} {p q : PV} (hs : vals.size = 2) (ha : ∀ i x, [p, q][i]? = some x → ∃ u, vals[i]? = some u ∧ RepV g w (.ar d i) x u) : ∃ u v, vals = #[u, v] ∧ RepV g w (.ar d 0) p u ∧ RepV g w (.ar d 1) q v := by
  obtain ⟨u, h1, h2⟩ := ha 0 p rfl
  obtain ⟨v, h3, h4⟩ := ha 1 q rfl
  refine ⟨u, v, ?_, h2, h4⟩
  apply Array.ext
  · simpa using hs
  · intro i hi hi'
    have : i < 2 := by simpa using hi'
    rcases (by omega : i = 0 ∨ i = 1) with rfl | rfl
    · simpa using (Array.getElem?_eq_some_iff.1 h1).2
    · simpa using (Array.getElem?_eq_some_iff.1 h3).2
theorem rep_s {g : G} {w : World} {κ : Key} {x : ByteArray} {u : Value} (h : RepV g w κ (.s x) u) : u = .string x := by
  have h : RepF g (.s x) u := h
  cases h; rfl
theorem rep_i {g : G} {w : World} {κ : Key} {k : IntKind} {n : Int} {u : Value} (h : RepV g w κ (.i k n) u) : u = .int k n := by
  have h : RepF g (.i k n) u := h
  cases h; rfl
theorem wf_glob {g : G} {w : World} (h : WF g w) {n T : Nat} {x : Dn T} (hn : glob n = some ⟨T, x⟩) : ∃ C E r, w.heap[n]? = some (.cells C E r) ∧ C.size = (cells T x).length ∧ CellsAt g C 0 (cells T x) := by
  obtain ⟨C, h1, h3, h2⟩ := h.gl.is n T x hn
  exact ⟨C, _, _, (h.fz n C h1).2, h3, h2⟩
theorem wf_tab {g : G} {w : World} (h : WF g w) {n T : Nat} {x : Dn T} {k : IntKind} {zs : List Int} {name : String} (hn : glob n = some ⟨T, x⟩) (hc : cells T x = zs.map fun z => .i k z) (hg : P.globalNamed name = some n) : Lib.TabIs P w name k zs := by
  obtain ⟨C, E, r, h1, h2, h3⟩ := wf_glob h hn
  unfold Lib.TabIs World.var?
  rw [hg, Option.bind_some, h1]
  simp only [Option.some.injEq]
  rw [hc] at h2 h3
  apply Array.ext
  · simpa using h2
  · intro i hi hi'
    have hz : i < zs.length := by simpa using hi'
    obtain ⟨u, h4, h5⟩ := h3 i (.i k zs[i]) (by simp [hz])
    cases h5
    rw [Nat.zero_add] at h4
    have := (Array.getElem?_eq_some_iff.1 h4).2
    simp [this]
def At (P : Program) (w : World) (name : String) (d : DataW Unit) : Prop :=
  ∃ g t cs fuel p, P.globalNamed name = some g ∧ (P.globals[g]?).map (·.type) = some t ∧ w.var? P name = some cs ∧ DataW.trod (fun _ => ()) P w 0 (fun _ => true) false fuel t cs.toList = some (d, p)
theorem laid_at {w : World} {l : List (String × DataW Unit)} (hp : (l.all fun x => x.2.handleName?.isNone) = true) (h : laidMetH P l w) {n : String} {d : DataW Unit} (hx : (n, d) ∈ l) : At P w n d := by
  rw [MakeChecks.laidMetH_plain _ _ _ hp] at h
  obtain ⟨ps, h, hr⟩ := h
  clear hp hr
  induction l generalizing ps with
  | nil => cases hx
  | cons y l ih =>
    obtain ⟨m, e⟩ := y
    obtain ⟨g, t, cs, fuel, p, q, h1, h2, h3, h4, h5, _⟩ := h
    rcases List.mem_cons.1 hx with he | hx
    · cases he
      exact ⟨g, t, cs, fuel, p, h1, h2, h3, h4⟩
    · exact ih hx q h5
theorem var_row {w : World} {n : String} {g : Nat} {cs : Array Value} (hg : P.globalNamed n = some g) (h : w.var? P n = some cs) : ∃ E r, w.heap[g]? = some (.cells cs E r) := by
  simp only [World.var?, hg, Option.bind_some] at h
  cases hh : w.heap[g]? with
  | none => simp [hh] at h
  | some o =>
    cases o with
    | cells C E r => simp only [hh, Option.some.injEq] at h; subst h; exact ⟨E, r, rfl⟩
    | _ => simp [hh] at h
def GIs (w : World) (n : Nat) (ps : List PV) : Prop := ∃ C, (G0 w).fz n = some C ∧ C.size = ps.length ∧ CellsAt (G0 w) C 0 ps
theorem at_tab {w : World} {name : String} {g t e n : Nat} {k : IntKind} {zs : List Int} (h : At P w name (Lib.tabData k zs)) (hg : P.globalNamed name = some g) (hty : (P.globals[g]?).map (·.type) = some t)
    (ht : P.underlying t = some (.array n e)) (he : P.underlying e = some (.int k)) (hce : P.cellsOf e = 1) (hct : P.cellsOf t = n) : GIs w g (zs.map fun z => .i k z) := by
  obtain ⟨g', t', cs, fuel, p, h1, h2, h3, h4⟩ := h
  obtain rfl := Option.some.inj (hg.symm.trans h1)
  obtain rfl := Option.some.inj (hty.symm.trans h2)
  obtain ⟨E, r, hh⟩ := var_row h1 h3
  have e1 := Lib.cells_of_tab ht he hce hct h4
  refine ⟨cs, G0_fz hh, ?_, fun j c hj => ?_⟩
  · have := congrArg List.length e1; simpa using this
  · simp only [List.getElem?_map, Option.map_eq_some_iff] at hj
    obtain ⟨z, hz, rfl⟩ := hj
    refine ⟨.int k z, ?_, .i k z⟩
    rw [Nat.zero_add, ← Array.getElem?_toList, e1, List.getElem?_map, hz]
    rfl
theorem at_slice (hE : EncOk) {w : World} {name : String} {g t e : Nat} (T : Nat) (xs : List (Dn T)) {ds : List (DataW Unit)} (h : At P w name (.slice ds [])) (hg : P.globalNamed name = some g) (hty : (P.globals[g]?).map (·.type) = some t)
    (ht : P.underlying t = some (.slice e)) (hce : P.cellsOf e = 1) (hs : sz T = 1) (hl : xs.length = ds.length)
    (hel : ∀ (i : Nat) (x : Dn T) (d : DataW Unit) (v : Value) (n : Nat) (q : List MemPlace), xs[i]? = some x → ds[i]? = some d → DataW.trod (fun _ => ()) P w 0 (fun _ => true) false n e [v] = some (d, q) → ∃ c, cells T x = [c] ∧ RepF (G0 w) c v) : GIs w g [.fl T xs] := by
  obtain ⟨g', t', cs, fuel, p, h1, h2, h3, h4⟩ := h
  obtain rfl := Option.some.inj (hg.symm.trans h1)
  obtain rfl := Option.some.inj (hty.symm.trans h2)
  obtain ⟨E, r, hh⟩ := var_row h1 h3
  obtain ⟨a, cap, e1, hcap, hat⟩ := open_row ht hce h4
  refine ⟨cs, G0_fz hh, ?_, fun j c hj => ?_⟩
  · have := congrArg List.length e1; simpa using this
  · cases j with
    | succ j => simp at hj
    | zero =>
      simp only [List.getElem?_cons_zero, Option.some.injEq] at hj
      subst hj
      refine ⟨.slice (some a) ds.length cap, by rw [← Array.getElem?_toList, e1]; rfl, ?_⟩
      by_cases hn : xs = []
      · subst hn
        simp only [List.length_nil] at hl
        rw [← hl]
        exact RepF.fl T [] a 0 cap #[] (fun _ _ => undef) (fun hh => (hh rfl).elim) (Nat.zero_le _) (fun i x hi => by simp at hi) (fun i x hi => by simp at hi)
      · have h0 : 0 < xs.length := List.length_pos_iff.2 hn
        obtain ⟨v0, n0, q0, hc0, _⟩ := hat 0 ds[0] (List.getElem?_eq_getElem (by omega))
        have e0 : a.add 0 = a := by simp [Addr.add]
        rw [e0] at hc0
        obtain ⟨hsp, C, E', r', hrow, _⟩ := cell_row hc0
        have ha : a = ⟨a.block, a.off, none⟩ := by rw [← hsp]
        have hadd : ∀ k, a.add k = ⟨a.block, a.off + k, none⟩ := fun k => by
          unfold Addr.add
          split
          · rename_i hk; subst hk; exact ha
          · first | rfl | rw [hsp]
        rw [ha, ← hl]
        refine RepF.fl' (C := C) (fun _ => G0_fz hrow) (by omega) fun i y hi j c hj => ?_
        have hil : i < xs.length := (List.getElem?_eq_some_iff.1 hi).1
        obtain ⟨v, n, q, hc, htr⟩ := hat i ds[i] (List.getElem?_eq_getElem (by omega))
        obtain ⟨c', e2, hr⟩ := hel i y ds[i] v n q hi (List.getElem?_eq_getElem (by omega)) htr
        rw [e2] at hj
        cases j with
        | succ j => simp at hj
        | zero =>
          simp only [List.getElem?_cons_zero, Option.some.injEq] at hj
          subst hj
          refine ⟨v, ?_, hr⟩
          rw [hadd] at hc
          rw [cell_of_row w a.block _ C E' r' hrow] at hc
          rw [hs, Nat.mul_one, Nat.add_zero]; exact hc
theorem at_texts (hE : EncOk) {w : World} {name : String} {g t e : Nat} (T : Nat) (xs : List (Dn T)) {ds : List (DataW Unit)} (txt : Dn T → ByteArray) (h : At P w name (.slice ds [])) (hg : P.globalNamed name = some g) (hty : (P.globals[g]?).map (·.type) = some t)
    (ht : P.underlying t = some (.slice e)) (he : P.underlying e = some .string) (hce : P.cellsOf e = 1) (hs : sz T = 1) (hc : ∀ x, cells T x = [.s (txt x)]) (hd : xs.map (fun x => DataW.lit (.string (txt x).data.toList)) = ds) : GIs w g [.fl T xs] := by
  subst hd
  refine at_slice hE T xs h hg hty ht hce hs (by simp) fun i x d v n q hx hd htr => ⟨_, hc x, ?_⟩
  rw [List.getElem?_map, hx] at hd
  simp only [Option.map_some, Option.some.injEq] at hd
  subst hd
  obtain ⟨m, e1, e2, _⟩ := DataW.trod_string he htr
  simp only [List.cons.injEq, and_true] at e1
  simp only [Prod.mk.injEq, DataW.lit.injEq, Lit.string.injEq] at e2
  have : m = txt x := ByteArray.ext (Array.toList_inj.1 e2.1.symm)
  rw [e1, this]
  exact .s _
inductive FnsL (P : Program) : List (Nat × Sig) → Prop
  | nil : FnsL P []
  | cons {f : Nat} {s : Sig} {l : List (Nat × Sig)} (h : P.funcs[f]? = some s.fn) (hb : (!(s.fn.name == "runtime.NumGoroutine") && s.fn.body.isSome) = true) (t : FnsL P l) : FnsL P ((f, s) :: l)
theorem FnsL.ok {l : List (Nat × Sig)} (h : FnsL P l) : ∀ f s, lk l f = some s → P.funcs[f]? = some s.fn ∧ (s.fn.name == "runtime.NumGoroutine") = false ∧ s.fn.body.isSome = true := by
  induction h with
  | nil => intro f s h; simp [lk] at h
  | cons h hb t ih =>
    rename_i f0 s0 l
    intro f s hs
    rw [lk_cons] at hs
    split at hs
    · rename_i e
      subst e
      simp only [Option.some.injEq] at hs
      subst hs
      simp only [Bool.and_eq_true, Bool.not_eq_true'] at hb
      exact ⟨h, hb.1, hb.2⟩
    · exact ih f s hs
end
end Go.KM
