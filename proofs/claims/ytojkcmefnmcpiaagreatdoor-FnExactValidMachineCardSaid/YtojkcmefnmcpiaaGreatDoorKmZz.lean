/- From a row's first world into the abstract machine, and back. Conditions: none. -/
import Derived.Test.YtojkcmefnmcpiaaGreatDoorKmX
import Derived.Deep.Slices
import Derived.Deep.Fields
import Derived.ChangeSame
import Derived.ChangeVars
import Derived.WideShapes
import Derived.RowKit
import Derived.SizedLaws
import Derived.Below
import Derived.OpenShut
import Derived.LaidMore
import Derived.Lib.LaidTab
import Derived.LaidLaws
import Derived.MakeChecks
namespace Go.KM
open Go Go.RowKit Go.ChangeShapes Go.WideShapes Go.Deep
open Fam (Dn dflt)
open Enc (cells sz mkE glob gany u8)
set_option autoImplicit false
set_option linter.unusedVariables false
set_option linter.unusedSimpArgs false
set_option linter.unusedSectionVars false
section
section
variable [Enc] {P : Program}
def G0 (w : World) : G where
 fz b := match w.heap[b]? with
  | some (.cells C _ _) => some C
  | _ => none
 own b := match w.heap[b]? with
  | some (.cells _ _ _) => none
  | some _ => some (.loc 0 b)
  | none => none
 no := 0
 oa _ := 0
 va _ := none
 lb _ := 0
 fe b := match w.heap[b]? with
  | some (.cells _ T r) => (T, r)
  | _ => (0, (0, 0))
theorem G0_fz {w : World} {b : Nat} {C : Array Value} {T : TypeId} {r : Nat × Nat} (h : w.heap[b]? = some (.cells C T r)) : (G0 w).fz b = some C := by simp only [G0, h]
theorem G0_wf {w : World} (hg : GlobOk (G0 w)) : WF (G0 w) w := by
 have lt : ∀ b o, w.heap[b]? = some o → b < w.heap.size := fun b o h => (Array.getElem?_eq_some_iff.1 h).1
 refine ⟨hg, fun b κ hb => ?_, fun b C hf => ?_, fun b b' j hb => ?_, fun i hi => ?_, fun i j hi => ?_, fun i hi => absurd hi (Nat.not_lt_zero i)⟩
 ·simp only [G0] at hb
  cases hh : w.heap[b]? with
  | none => simp [hh] at hb
  | some o => exact lt b o hh
 ·simp only [G0] at hf ⊢
  cases hh : w.heap[b]? with
  | none => simp [hh] at hf
  | some o =>
   cases o with
   | cells C' T r => simp only [hh, Option.some.injEq] at hf; subst hf; exact ⟨rfl, rfl⟩
   | _ => simp [hh] at hf
 ·simp only [G0] at hb
  cases hh : w.heap[b]? with
  | none => simp [hh] at hb
  | some o => cases o <;> simp [hh] at hb
 ·exact absurd hi (Nat.not_lt_zero i)
 ·exact absurd hi (Nat.not_lt_zero i)
theorem con_calls {f : FuncId} {ps : List PV} {v : PV} (hc : Con P false f ps [] v []) {w : World} {vals : Array Value} (hg : GlobOk (G0 w)) (hs : vals.size = ps.length)
  (ha : ∀ i p, ps[i]? = some p → ∃ u, vals[i]? = some u ∧ RepV (G0 w) w (.ar 1 i) p u) :
  Calls P f vals w fun e w' => ∃ r g', e = .returned r ∧ RepT g' w' (Key.rt 1) v r ∧ Below w.heap.size w w' := by
 refine (hc 1 (G0 w) w vals hs ha (fun i cs hi => by simp at hi) (fun h => by simp at h) (G0_wf hg)).mono fun e w' ⟨r, g', h1, h2, _, _, _, hw, he⟩ => ?_
 refine ⟨r, g', h1, h2, he.sl.os, he.sl.tape, he.sl.out, he.hs, fun k hk => ?_⟩
 have hk' : w.heap[k]? = some w.heap[k] := Array.getElem?_eq_getElem hk
 cases ho : w.heap[k] with
 | cells C T rr =>
  rw [ho] at hk'
  have h3 := G0_fz hk'
  have h4 := (hw.fz k C (he.gr.fz k C h3)).2
  rw [he.gr.fe k C h3] at h4
  rw [h4, hk']
  simp only [G0, hk']
 | _ =>
  rw [ho] at hk'
  refine (he.own k (.loc 0 k) (by simp only [G0, hk']) ?_).2
  exact Nat.zero_lt_one
def Opens (P : Program) (t : TypeId) (α : Type) (cl : α → List PV) (Good : α → Prop) : Prop :=
 ∀ (H : Type) (enc : TypeId × Value → H) (w : World) (base : Nat) (spare : Nat → Bool) (held : Bool) (fuel : Nat) (cs : List Value) (x : DataW H × List MemPlace),
  DataW.trod enc P w base spare held fuel t cs = some x → ∃ a, Good a ∧ cs.length = (cl a).length ∧ ∀ (j : Nat) (c : PV), (cl a)[j]? = some c → ∃ u : Value, cs[j]? = some u ∧ RepF (G0 w) c u
theorem opens_int {t : TypeId} {k : IntKind} (ht : P.underlying t = some (.int k)) : Opens P t Int (fun n => [.i k n]) (fun n => (Lit.int k n).wf = true) := by
 intro H enc w base spare held fuel cs x h
 obtain ⟨n, rfl, _, hw⟩ := DataW.trod_int ht h
 refine ⟨n, hw, rfl, fun j c hj => ?_⟩
 cases j with
 | zero => simp only [List.getElem?_cons_zero, Option.some.injEq] at hj; subst hj; exact ⟨_, rfl, .i k n⟩
 | succ j => simp at hj
theorem opens_bool {t : TypeId} (ht : P.underlying t = some .bool) : Opens P t Bool (fun b => [.b b]) (fun _ => True) := by
 intro H enc w base spare held fuel cs x h
 obtain ⟨n, rfl, _⟩ := DataW.trod_bool ht h
 refine ⟨n, trivial, rfl, fun j c hj => ?_⟩
 cases j with
 | zero => simp only [List.getElem?_cons_zero, Option.some.injEq] at hj; subst hj; exact ⟨_, rfl, .b n⟩
 | succ j => simp at hj
theorem opens_string {t : TypeId} (ht : P.underlying t = some .string) : Opens P t ByteArray (fun s => [.s s]) (fun s => s.size ≤ maxLen) := by
 intro H enc w base spare held fuel cs x h
 cases fuel with
 | zero => simp [DataW.trod] at h
 | succ n =>
  unfold DataW.trod at h
  rw [ht] at h
  split at h <;> simp_all
  obtain ⟨h, _⟩ := h
  refine ⟨_, h, fun j c hj => ?_⟩
  cases j with
  | zero => simp only [List.getElem?_cons_zero, Option.some.injEq] at hj; subst hj; exact ⟨_, rfl, .s _⟩
  | succ j => simp at hj
theorem cell_row {w : World} {a : Addr} {u : Value} (h : w.cell? a = some u) : a.spot = none ∧ ∃ C E r, w.heap[a.block]? = some (.cells C E r) ∧ C[a.off]? = some u := by
 simp only [World.cell?] at h
 cases hh : w.heap[a.block]? with
 | none => simp [hh] at h
 | some o =>
  cases o with
  | cells C E r =>
   simp only [hh] at h
   cases hs : a.spot with
   | none => simp only [hs, Option.isSome_none, Bool.false_eq_true, if_false] at h; exact ⟨rfl, C, E, r, rfl, h⟩
   | some q => simp [hs] at h
  | _ => simp [hh] at h
theorem opens_slice (hE : EncOk) {t e : TypeId} (T : Nat) {Good : Dn T → Prop} (ht : P.underlying t = some (.slice e)) (hC : P.cellsOf e = sz T) (hz : 0 < sz T) (he : Opens P e (Dn T) (cells T) Good) :
  Opens P t (List (Dn T)) (fun xs => [.fl T xs]) (fun xs => xs.length ≤ maxLen ∧ ∀ x ∈ xs, Good x) := by
 intro H enc w base spare held fuel cs x h
 have one : ∀ (xs : List (Dn T)) (v : Value), RepF (G0 w) (.fl T xs) v → ∀ (j : Nat) (c : PV), ([PV.fl T xs])[j]? = some c → ∃ u, ([v])[j]? = some u ∧ RepF (G0 w) c u := fun xs v hr j c hj => by
  cases j with
  | zero => simp only [List.getElem?_cons_zero, Option.some.injEq] at hj; subst hj; exact ⟨v, rfl, hr⟩
  | succ j => simp at hj
 rcases open_slice ht h with ⟨rfl, _⟩ | ⟨a, len, cap, m, n, D, Pl, rfl, hb, hl, hm, hmm, _, hi⟩
 ·exact ⟨[], ⟨by simp, fun x hx => by simp at hx⟩, rfl, one [] _ (.fl0 T)⟩
 ·have hlm : len ≤ m := by rw [hmm]; split <;> omega
  have key : ∀ k, k ≤ len → ∃ xs : List (Dn T), xs.length = k ∧ (∀ x ∈ xs, Good x) ∧ ∀ i y, xs[i]? = some y → ∀ j c, (cells T y)[j]? = some c → ∃ u, w.cell? (a.add (i * sz T + j)) = some u ∧ RepF (G0 w) c u := by
   intro k
   induction k with
   | zero => exact fun _ => ⟨[], rfl, fun x hx => by simp at hx, fun j p hj => by simp at hj⟩
   | succ k ih =>
    intro hk
    obtain ⟨xs, h1, h2, h3⟩ := ih (by omega)
    obtain ⟨cs', hc, htr⟩ := hi k (by omega)
    obtain ⟨y, hg, hlen, hK⟩ := he _ _ _ _ _ _ _ _ _ htr
    obtain ⟨_, hcl, hat⟩ := World.cells?_some hc
    refine ⟨xs ++ [y], by simp [h1], ?_, ?_⟩
    ·intro x hx
     rcases List.mem_append.1 hx with hx | hx
     ·exact h2 x hx
     ·rw [List.mem_singleton.1 hx]; exact hg
    ·intro i p hp
     rcases Nat.lt_or_ge i xs.length with hjl | hjl
     ·rw [List.getElem?_append_left hjl] at hp
      exact h3 i p hp
     ·rw [List.getElem?_append_right hjl] at hp
      have hj0 : i - xs.length = 0 := by
       rcases Nat.eq_zero_or_pos (i - xs.length) with h0 | h0
       ·exact h0
       ·rw [List.getElem?_eq_none (by simp; omega)] at hp; cases hp
      rw [hj0] at hp
      simp only [List.getElem?_cons_zero, Option.some.injEq] at hp
      subst hp
      obtain rfl : i = k := by omega
      rw [hC] at hcl hat
      intro j c hj
      obtain ⟨u, hu, hr⟩ := hK j c hj
      have hjl : j < sz T := by
       rw [← hcl]; exact (List.getElem?_eq_some_iff.1 hu).1
      exact ⟨u, by rw [← Go.Deep.add_add, hat j hjl, hu], hr⟩
  obtain ⟨xs, h1, h2, h3⟩ := key len (Nat.le_refl _)
  refine ⟨xs, ⟨by unfold maxLen at hm ⊢; omega, h2⟩, rfl, one xs _ ?_⟩
  by_cases hn : xs = []
  ·subst hn
   simp only [List.length_nil] at h1
   subst h1
   exact RepF.fl T [] a 0 cap #[] (fun _ _ => undef) (fun hh => (hh rfl).elim) (Nat.zero_le _) (fun i x hi => by simp at hi) (fun i x hi => by simp at hi)
  ·have h0 : 0 < xs.length := List.length_pos_iff.2 hn
   have hcl : 0 < (cells T xs[0]).length := by rw [hE.len]; exact hz
   obtain ⟨u0, hu0, _⟩ := h3 0 xs[0] (List.getElem?_eq_getElem h0) 0 (cells T xs[0])[0] (List.getElem?_eq_getElem hcl)
   have hadd : ∀ k, a.spot = none → a.add k = ⟨a.block, a.off + k, none⟩ := fun k hs => by
    obtain ⟨b, o, s⟩ := a
    simp only at hs
    subst hs
    unfold Addr.add
    split
    ·rename_i hk; subst hk; rfl
    ·rfl
   have e0 : a.add (0 * sz T + 0) = a := by simp [Addr.add]
   rw [e0] at hu0
   obtain ⟨hs, C, E, r, hh, _⟩ := cell_row hu0
   have ha : a = ⟨a.block, a.off, none⟩ := by rw [← hs]
   rw [ha, ← h1]
   refine RepF.fl' (C := C) (fun _ => G0_fz hh) (by omega) fun i y hi j c hj => ?_
   obtain ⟨u, hu, hr⟩ := h3 i y hi j c hj
   rw [hadd _ hs] at hu
   rw [cell_of_row w a.block _ C E r hh] at hu
   exact ⟨u, by rw [Nat.add_assoc]; exact hu, hr⟩
def OpensFields (P : Program) (fs : List Field) (off : Nat) (α : Type) (cl : α → List PV) (Good : α → Prop) : Prop :=
 ∀ (H : Type) (enc : TypeId × Value → H) (w : World) (base : Nat) (spare : Nat → Bool) (held : Bool) (n : Nat) (cs : List Value) (N : Nat), cs.length = N → (∀ a, off + (cl a).length = N) →
  (∀ (j : Nat) (f : Field), fs[j]? = some f → ∃ y, DataW.trod enc P w base spare held n f.type ((cs.drop f.offset).take (P.cellsOf f.type)) = some y) → ∃ a, Good a ∧ ∀ (j : Nat) (c : PV), (cl a)[j]? = some c → ∃ u : Value, cs[off + j]? = some u ∧ RepF (G0 w) c u
theorem fields_nil {off : Nat} : OpensFields P [] off Unit (fun _ => []) (fun _ => True) := by
 intro H enc w base spare held n cs N hN hl hf
 exact ⟨(), trivial, fun j c hj => by simp at hj⟩
theorem fields_cons {α β : Type} {f : Field} {fs : List Field} {off off' : Nat} (ty : TypeId) {cl : α → List PV} {cl' : β → List PV} {G : α → Prop} {G' : β → Prop} (ht : f.type = ty) (ho : f.offset = off) (hC : ∀ a, (cl a).length = P.cellsOf ty) (ho' : off' = off + P.cellsOf ty)
  (h : Opens P ty α cl G) (h' : OpensFields P fs off' β cl' G') : OpensFields P (f :: fs) off (α × β) (fun x => cl x.1 ++ cl' x.2) (fun x => G x.1 ∧ G' x.2) := by
 subst ht
 intro H enc w base spare held n cs N hN hl hf
 obtain ⟨y, hy⟩ := hf 0 f rfl
 obtain ⟨a, hg, hlen, hK⟩ := h _ _ _ _ _ _ _ _ _ hy
 obtain ⟨b, hg', hK'⟩ := h' H enc w base spare held n cs N hN (fun b => by have := hl (a, b); simp only [List.length_append, hC] at this; omega) (fun j g hj => hf (j + 1) g (by simpa using hj))
 refine ⟨(a, b), ⟨hg, hg'⟩, fun j c hj => ?_⟩
 have hj : (cl a ++ cl' b)[j]? = some c := hj
 rcases Nat.lt_or_ge j (cl a).length with hlt | hge
 ·rw [List.getElem?_append_left hlt] at hj
  obtain ⟨u, hu, hr⟩ := hK j c hj
  refine ⟨u, ?_, hr⟩
  rw [ho, List.getElem?_take] at hu
  split at hu
  ·rw [List.getElem?_drop] at hu; exact hu
  ·simp at hu
 ·rw [List.getElem?_append_right hge] at hj
  obtain ⟨u, hu, hr⟩ := hK' _ c hj
  refine ⟨u, ?_, hr⟩
  rw [← hu]; congr 1; rw [hC] at hge ⊢; omega
theorem opens_struct {α : Type} {t : TypeId} {fl : List Field} {cl : α → List PV} {G : α → Prop} (ht : P.underlying t = some (.struct fl.toArray)) (hC : ∀ a, (cl a).length = P.cellsOf t) (h : OpensFields P fl 0 α cl G) : Opens P t α cl G := by
 intro H enc w base spare held fuel cs x hx
 obtain ⟨ys, n, _, hy, hlen, hyl, hf⟩ := DataW.trod_struct ht hx
 obtain ⟨a, h1, h2⟩ := h H enc w base spare held n cs (P.cellsOf t) (by omega) (fun a => by rw [hC]; omega) (fun j f hj => by
  have hj' : fl.toArray[j]? = some f := by simpa using hj
  have h1 := hf j f hj'
  have hjl : j < ys.length := by
   rw [hyl]; exact (Array.getElem?_eq_some_iff.1 hj').1
  exact ⟨_, h1.trans (List.getElem?_eq_getElem hjl)⟩)
 refine ⟨a, h1, by rw [hC]; omega, fun j c hj => ?_⟩
 obtain ⟨u, h3, h4⟩ := h2 j c hj
 exact ⟨u, by rw [Nat.zero_add] at h3; exact h3, h4⟩
theorem opens_iso {α β : Type} {t : TypeId} {cl : α → List PV} {cl' : β → List PV} {G : α → Prop} {G' : β → Prop} (g : α → β) (hcl : ∀ a, cl' (g a) = cl a) (hG : ∀ a, G a → G' (g a)) (h : Opens P t α cl G) : Opens P t β cl' G' := by
 intro H enc w base spare held fuel cs x hx
 obtain ⟨a, h1, h2, h3⟩ := h _ _ _ _ _ _ _ _ _ hx
 exact ⟨g a, hG a h1, by rw [hcl]; exact h2, by rw [hcl]; exact h3⟩
theorem arg_st {α : Type} {t : TypeId} {cl : α → List PV} {Good : α → Prop} (h : Opens P t α cl Good) {H : Type} {enc : TypeId × Value → H} {w : World} {base : Nat} {spare : Nat → Bool} {held : Bool} {A : Array Value} {x : DataW H} {p : List MemPlace}
  (hx : DataW.Trod enc P w base spare held t (.agg A) x p) : ∃ a, Good a ∧ ∀ κ, RepV (G0 w) w κ (.st (cl a)) (.agg A) := by
 obtain ⟨fuel, hf⟩ := hx
 obtain ⟨a, h1, h2, h3⟩ := h _ _ _ _ _ _ _ _ _ hf
 refine ⟨a, h1, fun κ => ⟨A, rfl, by simpa [Value.cells] using h2, fun j c hj => ?_⟩⟩
 obtain ⟨u, h4, h5⟩ := h3 j c hj
 exact ⟨u, by rw [Nat.zero_add]; simpa [Value.cells] using h4, h5⟩
theorem row_wrap {H : Type} {enc : TypeId × Value → H} {a : Assume} {C : Checked} {os : Os} {f : FuncId} {fn : Func} {s : ChangeSpec} {conds : List PathCond} {apart fresh handsOn again : Bool} {X : World → Array Value → Prop}
  (hX : ∀ (w w' : World) (args : Array Value), w.heap = w'.heap → X w args → X w' args)
  (own : ownKnob C.prog.godebug = none) (started : os.Started) (noInit : C.prog.inits.idxOf? f = none) (hfn : C.prog.funcs[f]? = some fn)
  (witness : ∃ (w : World) (tape : Tape) (i : Input), w.os = os ∧ (w.forCall tape i).Shaped C.prog ∧ i.vars = [] ∧ Input.okWide C.prog (w.forCall tape i) .any w.heap.size f i ∧
   ((s.pre enc C.prog fn conds apart (w.forCall tape i).memory i.args ∧ X (w.forCall tape i).memory i.args) ∧ sizedMet enc C.prog fn (OpenSpec.ofChange s) apart (w.forCall tape i).memory i.args) ∧ a.holds C.prog (lone (Frame.enter C.prog f i.args .normal) [] (w.forCall tape i)))
  (contract : ∀ (W : World) (base : Nat) (args : Array Value) (ds gs : List (DataW H)) (before : List MemPlace),
   (∀ (j : Nat) t v, fn.params[j]? = some t → args[j]? = some v → Value.okWide C.prog W .any base t v) →
   DataW.Whole enc C.prog fn.params.toList s.vars apart W args.toList ds gs before → X W args → W.ShapedOpen C.prog →
   Calls C.prog f args W fun e W' => ∃ v, e = .returned v ∧ s.post enc C.prog fn apart fresh handsOn again W args v W') :
  ReturnsInHanded a C os f .any (fun w args => (s.pre enc C.prog fn conds apart w args ∧ X w args) ∧ sizedMet enc C.prog fn (OpenSpec.ofChange s) apart w args) (s.post enc C.prog fn apart fresh handsOn again) := by
 refine returnsInHanded_of_calls own started noInit witness ?_
 intro w tape i _ hsh _ hok hpre hholds
 obtain ⟨_, _, _, fn', hfn', _, _, _, _, hval⟩ := hok
 have e : fn' = fn := Option.some.inj (hfn'.symm.trans hfn)
 subst e
 obtain ⟨⟨⟨ds, gs, before, hw, hc⟩, hx⟩, hz⟩ := hpre
 have hw' := DataW.Whole.of_heap (w' := w.forCall tape i) (by rfl) hw
 refine (contract (w.forCall tape i) w.heap.size i.args ds gs before hval hw' (hX _ _ _ (by rfl) hx) hsh).mono fun e W' ⟨v, he, hp⟩ => ?_
 subst he
 exact ChangeSpec.post_blind hp
end
end
end Go.KM
namespace Go.KM
open Go Go.RowKit
open Fam (Dn dflt)
open Enc (cells sz mkE glob gany u8)
set_option autoImplicit false
set_option linter.unusedVariables false
set_option linter.unusedSimpArgs false
set_option linter.unusedSectionVars false
section
section
variable [Enc] {P : Program}
theorem WF.below {g : G} {w w' : World} (h : WF g w) (b : Below w.heap.size w w') : WF g w' := by
 refine ⟨h.gl, fun x κ hx => Nat.lt_of_lt_of_le (h.own x κ hx) b.size, fun x C hx => ?_, fun x b' j hx => Nat.lt_of_lt_of_le (h.ob x b' j hx) b.size, fun i hi => Nat.lt_of_lt_of_le (h.ol i hi) b.size, h.inj, h.oe_row (RowTy.of_same fun k hk => b.block k hk)⟩
 obtain ⟨h1, h2⟩ := h.fz x C hx
 refine ⟨h1, ?_⟩
 rw [b.block x (Array.getElem?_eq_some_iff.1 h2).1]
 exact h2
theorem con_base_fl {f : FuncId} {ps : List PV} {T : Nat} {xs : List (Dn T)} (hs1 : sz T = 1)
  (h : ∀ (d : Nat) (g : G) (w : World) (vals : Array Value), vals.size = ps.length → (∀ i p, ps[i]? = some p → ∃ u, vals[i]? = some u ∧ RepV g w (.ar d i) p u) → WF g w →
   Calls P f vals w fun e w' => e = .returned (.slice (some ⟨w.heap.size, 0, none⟩) xs.length xs.length) ∧ ∃ (C : Array Value) (E : TypeId), w' = w.alloc (.cells C E) ∧
    ∀ (i : Nat) (x : Dn T), xs[i]? = some x → ∃ c v, cells T x = [c] ∧ C[i]? = some v ∧ ∀ g : G, RepF g c v) : Con P false f ps [] (.fl T xs) [] := by
 intro d g w vals hs ha hM hN hw
 refine (h d g w vals hs ha hw).mono fun e w' ⟨h1, C, E, h2, h3⟩ => ?_
 subst h2
 let g' : G := { g with fz := fun b => if b = w.heap.size then some C else g.fz b, fe := fun b => if b = w.heap.size then (E, (0, 0)) else g.fe b }
 have hlt : ∀ b C0, g.fz b = some C0 → b < w.heap.size := fun b C0 hb => (Array.getElem?_eq_some_iff.1 (hw.fz b C0 hb).2).1
 have hgr : Grow g g' := by
  refine ⟨fun b C0 hb => ?_, Nat.le_refl _, fun _ _ => rfl, fun b C0 hb => ?_, rfl, fun i hi => by
   have hne : g.oa i ≠ w.heap.size := by have := hw.ol i hi; omega
   show (if g.oa i = w.heap.size then (E, ((0, 0) : Nat × Nat)) else g.fe (g.oa i)).1 = _
   rw [if_neg hne]⟩
  ·have := hlt b C0 hb
   show (if b = w.heap.size then some C else g.fz b) = some C0
   rw [if_neg (by omega)]; exact hb
  ·have := hlt b C0 hb
   show (if b = w.heap.size then (E, (0, 0)) else g.fe b) = _
   rw [if_neg (by omega)]
 have hold : ∀ b, b < w.heap.size → (w.alloc (.cells C E)).heap[b]? = w.heap[b]? := fun b hb => Below.heap_alloc w _ b hb
 have hnew : (w.alloc (.cells C E)).heap[w.heap.size]? = some (.cells C E) := by
  show (w.heap.push _)[w.heap.size]? = _
  simp
 have hsz : w.heap.size ≤ (w.alloc (.cells C E)).heap.size := by show w.heap.size ≤ (w.heap.push _).size; simp
 have hwf : WF g' (w.alloc (.cells C E)) := by
  refine ⟨gl_mono hgr hw.gl, fun b κ hb => Nat.lt_of_lt_of_le (hw.own b κ hb) hsz, fun b C0 hb => ?_, fun b b' j hb => Nat.lt_of_lt_of_le (hw.ob b b' j hb) hsz, fun i hi => Nat.lt_of_lt_of_le (hw.ol i hi) hsz, hw.inj, fun i hi => by
   obtain ⟨k0, C0, fr, k1⟩ := hw.oe i hi
   have hne : g.oa i ≠ w.heap.size := by have := hw.ol i hi; omega
   refine ⟨k0, C0, fr, ?_⟩
   rw [hold _ (hw.ol i hi), k1]
   show _ = some (Obj.cells C0 (if g.oa i = w.heap.size then (E, ((0, 0) : Nat × Nat)) else g.fe (g.oa i)).1 fr)
   rw [if_neg hne]⟩
  have hb : (if b = w.heap.size then some C else g.fz b) = some C0 := hb
  by_cases hbs : b = w.heap.size
  ·rw [if_pos hbs] at hb
   obtain rfl := Option.some.inj hb
   subst hbs
   refine ⟨?_, ?_⟩
   ·show g.own w.heap.size = none
    cases ho : g.own w.heap.size with
    | none => rfl
    | some κ => exact absurd (hw.own _ κ ho) (Nat.lt_irrefl _)
   ·rw [hnew]
    show _ = some (Obj.cells C (if w.heap.size = w.heap.size then (E, ((0, 0) : Nat × Nat)) else g.fe w.heap.size).1 (if w.heap.size = w.heap.size then (E, ((0, 0) : Nat × Nat)) else g.fe w.heap.size).2)
    rw [if_pos rfl]
  ·rw [if_neg hbs] at hb
   obtain ⟨h4, h5⟩ := hw.fz b C0 hb
   refine ⟨h4, ?_⟩
   rw [hold b (hlt b C0 hb), h5]
   show _ = some (Obj.cells C0 (if b = w.heap.size then (E, ((0, 0) : Nat × Nat)) else g.fe b).1 (if b = w.heap.size then (E, ((0, 0) : Nat × Nat)) else g.fe b).2)
   rw [if_neg hbs]
 refine ⟨_, g', h1, ?_, fun i cs hi => by simp at hi, fun h => by simp at h, fun _ => rfl, hwf, ⟨hgr, fun b κ hb _ => ⟨hb, hold b (hw.own b κ hb)⟩, hsz, fun i h1 h2 => absurd (Nat.lt_of_le_of_lt h1 h2) (Nat.lt_irrefl _), ⟨rfl, rfl, rfl⟩⟩⟩
 show RepF g' (.fl T xs) _
 refine RepF.fl' (C := C) (fun _ => by show (if w.heap.size = w.heap.size then some C else _) = some C; rw [if_pos rfl]) (Nat.le_refl _) fun i x hi j c hj => ?_
 obtain ⟨c', v, h4, h5, h6⟩ := h3 i x hi
 rw [h4] at hj
 cases j with
 | succ j => simp at hj
 | zero =>
  simp only [List.getElem?_cons_zero, Option.some.injEq] at hj
  subst hj
  exact ⟨v, by rw [hs1]; simpa using h5, h6 g'⟩
theorem vals1 {g : G} {w : World} {d : Nat} {vals : Array Value} {p : PV} (hs : vals.size = 1) (ha : ∀ i q, [p][i]? = some q → ∃ u, vals[i]? = some u ∧ RepV g w (.ar d i) q u) : ∃ u, vals = #[u] ∧ RepV g w (.ar d 0) p u := by
 obtain ⟨u, h1, h2⟩ := ha 0 p rfl
 refine ⟨u, ?_, h2⟩
 apply Array.ext
 ·simpa using hs
 ·intro i hi hi'
  obtain rfl : i = 0 := by simpa using hi'
  simpa using (Array.getElem?_eq_some_iff.1 h1).2
theorem rep_s {g : G} {w : World} {κ : Key} {x : ByteArray} {u : Value} (h : RepV g w κ (.s x) u) : u = .string x := by
 have h : RepF g (.s x) u := h
 cases h; rfl
theorem wf_glob {g : G} {w : World} (h : WF g w) {n T : Nat} {x : Dn T} (hn : glob n = some ⟨T, x⟩) : ∃ C E r, w.heap[n]? = some (.cells C E r) ∧ C.size = (cells T x).length ∧ CellsAt g C 0 (cells T x) := by
 obtain ⟨C, h1, h3, h2⟩ := h.gl.is n T x hn
 exact ⟨C, _, _, (h.fz n C h1).2, h3, h2⟩
theorem wf_tab {g : G} {w : World} (h : WF g w) {n T : Nat} {x : Dn T} {k : IntKind} {zs : List Int} {name : String} (hn : glob n = some ⟨T, x⟩) (hc : cells T x = zs.map fun z => .i k z) (hg : P.globalNamed name = some n) : Lib.TabIs P w name k zs := by
 obtain ⟨C, E, r, h1, h2, h3⟩ := wf_glob h hn
 unfold Lib.TabIs World.var?
 rw [hg, Option.bind_some, h1]
 simp only [Option.some.injEq]
 rw [hc] at h2 h3
 apply Array.ext
 ·simpa using h2
 ·intro i hi hi'
  have hz : i < zs.length := by simpa using hi'
  obtain ⟨u, h4, h5⟩ := h3 i (.i k zs[i]) (by simp [hz])
  cases h5
  rw [Nat.zero_add] at h4
  have := (Array.getElem?_eq_some_iff.1 h4).2
  simp [this]
def At (P : Program) (w : World) (name : String) (d : DataW Unit) : Prop :=
 ∃ g t cs fuel p, P.globalNamed name = some g ∧ (P.globals[g]?).map (·.type) = some t ∧ w.var? P name = some cs ∧ DataW.trod (fun _ => ()) P w 0 (fun _ => true) false fuel t cs.toList = some (d, p)
theorem laid_at {w : World} {l : List (String × DataW Unit)} (hp : (l.all fun x => x.2.handleName?.isNone) = true) (h : laidMetH P l w) {n : String} {d : DataW Unit} (hx : (n, d) ∈ l) : At P w n d := by
 rw [MakeChecks.laidMetH_plain _ _ _ hp] at h
 obtain ⟨ps, h, hr⟩ := h
 clear hp hr
 induction l generalizing ps with
 | nil => cases hx
 | cons y l ih =>
  obtain ⟨m, e⟩ := y
  obtain ⟨g, t, cs, fuel, p, q, h1, h2, h3, h4, h5, _⟩ := h
  rcases List.mem_cons.1 hx with he | hx
  ·cases he
   exact ⟨g, t, cs, fuel, p, h1, h2, h3, h4⟩
  ·exact ih hx q h5
theorem var_row {w : World} {n : String} {g : Nat} {cs : Array Value} (hg : P.globalNamed n = some g) (h : w.var? P n = some cs) : ∃ E r, w.heap[g]? = some (.cells cs E r) := by
 simp only [World.var?, hg, Option.bind_some] at h
 cases hh : w.heap[g]? with
 | none => simp [hh] at h
 | some o =>
  cases o with
  | cells C E r => simp only [hh, Option.some.injEq] at h; subst h; exact ⟨E, r, rfl⟩
  | _ => simp [hh] at h
def GIs (w : World) (n : Nat) (ps : List PV) : Prop := ∃ C, (G0 w).fz n = some C ∧ C.size = ps.length ∧ CellsAt (G0 w) C 0 ps
theorem at_tab {w : World} {name : String} {g t e n : Nat} {k : IntKind} {zs : List Int} (h : At P w name (Lib.tabData k zs)) (hg : P.globalNamed name = some g) (hty : (P.globals[g]?).map (·.type) = some t)
  (ht : P.underlying t = some (.array n e)) (he : P.underlying e = some (.int k)) (hce : P.cellsOf e = 1) (hct : P.cellsOf t = n) : GIs w g (zs.map fun z => .i k z) := by
 obtain ⟨g', t', cs, fuel, p, h1, h2, h3, h4⟩ := h
 obtain rfl := Option.some.inj (hg.symm.trans h1)
 obtain rfl := Option.some.inj (hty.symm.trans h2)
 obtain ⟨E, r, hh⟩ := var_row h1 h3
 have e1 := Lib.cells_of_tab ht he hce hct h4
 refine ⟨cs, G0_fz hh, ?_, fun j c hj => ?_⟩
 ·have := congrArg List.length e1; simpa using this
 ·simp only [List.getElem?_map, Option.map_eq_some_iff] at hj
  obtain ⟨z, hz, rfl⟩ := hj
  refine ⟨.int k z, ?_, .i k z⟩
  rw [Nat.zero_add, ← Array.getElem?_toList, e1, List.getElem?_map, hz]
  rfl
theorem at_slice (hE : EncOk) {w : World} {name : String} {g t e : Nat} (T : Nat) (xs : List (Dn T)) {ds : List (DataW Unit)} (h : At P w name (.slice ds [])) (hg : P.globalNamed name = some g) (hty : (P.globals[g]?).map (·.type) = some t)
  (ht : P.underlying t = some (.slice e)) (hce : P.cellsOf e = 1) (hs : sz T = 1) (hl : xs.length = ds.length)
  (hel : ∀ (i : Nat) (x : Dn T) (d : DataW Unit) (v : Value) (n : Nat) (q : List MemPlace), xs[i]? = some x → ds[i]? = some d → DataW.trod (fun _ => ()) P w 0 (fun _ => true) false n e [v] = some (d, q) → ∃ c, cells T x = [c] ∧ RepF (G0 w) c v) : GIs w g [.fl T xs] := by
 obtain ⟨g', t', cs, fuel, p, h1, h2, h3, h4⟩ := h
 obtain rfl := Option.some.inj (hg.symm.trans h1)
 obtain rfl := Option.some.inj (hty.symm.trans h2)
 obtain ⟨E, r, hh⟩ := var_row h1 h3
 obtain ⟨a, cap, e1, hcap, hat⟩ := open_row ht hce h4
 refine ⟨cs, G0_fz hh, ?_, fun j c hj => ?_⟩
 ·have := congrArg List.length e1; simpa using this
 ·cases j with
  | succ j => simp at hj
  | zero =>
   simp only [List.getElem?_cons_zero, Option.some.injEq] at hj
   subst hj
   refine ⟨.slice (some a) ds.length cap, by rw [← Array.getElem?_toList, e1]; rfl, ?_⟩
   by_cases hn : xs = []
   ·subst hn
    simp only [List.length_nil] at hl
    rw [← hl]
    exact RepF.fl T [] a 0 cap #[] (fun _ _ => undef) (fun hh => (hh rfl).elim) (Nat.zero_le _) (fun i x hi => by simp at hi) (fun i x hi => by simp at hi)
   ·have h0 : 0 < xs.length := List.length_pos_iff.2 hn
    obtain ⟨v0, n0, q0, hc0, _⟩ := hat 0 ds[0] (List.getElem?_eq_getElem (by omega))
    have e0 : a.add 0 = a := by simp [Addr.add]
    rw [e0] at hc0
    obtain ⟨hsp, C, E', r', hrow, _⟩ := cell_row hc0
    have ha : a = ⟨a.block, a.off, none⟩ := by rw [← hsp]
    have hadd : ∀ k, a.add k = ⟨a.block, a.off + k, none⟩ := fun k => by
     unfold Addr.add
     split
     ·rename_i hk; subst hk; exact ha
     ·first | rfl | rw [hsp]
    rw [ha, ← hl]
    refine RepF.fl' (C := C) (fun _ => G0_fz hrow) (by omega) fun i y hi j c hj => ?_
    have hil : i < xs.length := (List.getElem?_eq_some_iff.1 hi).1
    obtain ⟨v, n, q, hc, htr⟩ := hat i ds[i] (List.getElem?_eq_getElem (by omega))
    obtain ⟨c', e2, hr⟩ := hel i y ds[i] v n q hi (List.getElem?_eq_getElem (by omega)) htr
    rw [e2] at hj
    cases j with
    | succ j => simp at hj
    | zero =>
     simp only [List.getElem?_cons_zero, Option.some.injEq] at hj
     subst hj
     refine ⟨v, ?_, hr⟩
     rw [hadd] at hc
     rw [cell_of_row w a.block _ C E' r' hrow] at hc
     rw [hs, Nat.mul_one, Nat.add_zero]; exact hc
theorem at_ints (hE : EncOk) {w : World} {name : String} {g t e : Nat} (T : Nat) (xs : List (Dn T)) {ds : List (DataW Unit)} (k : IntKind) (num : Dn T → Int) (h : At P w name (.slice ds [])) (hg : P.globalNamed name = some g) (hty : (P.globals[g]?).map (·.type) = some t)
  (ht : P.underlying t = some (.slice e)) (he : P.underlying e = some (.int k)) (hce : P.cellsOf e = 1) (hs : sz T = 1) (hc : ∀ x, cells T x = [.i k (num x)]) (hd : xs.map (fun x => DataW.lit (.int k (num x))) = ds) : GIs w g [.fl T xs] := by
 subst hd
 refine at_slice hE T xs h hg hty ht hce hs (by simp) fun i x d v n q hx hd htr => ⟨_, hc x, ?_⟩
 rw [List.getElem?_map, hx] at hd
 simp only [Option.map_some, Option.some.injEq] at hd
 subst hd
 obtain ⟨m, e1, e2, _⟩ := DataW.trod_int he htr
 simp only [List.cons.injEq, and_true] at e1
 simp only [Prod.mk.injEq, DataW.lit.injEq, Lit.int.injEq, true_and] at e2
 rw [e1, ← e2.1]
 exact .i k _
theorem at_texts (hE : EncOk) {w : World} {name : String} {g t e : Nat} (T : Nat) (xs : List (Dn T)) {ds : List (DataW Unit)} (txt : Dn T → ByteArray) (h : At P w name (.slice ds [])) (hg : P.globalNamed name = some g) (hty : (P.globals[g]?).map (·.type) = some t)
  (ht : P.underlying t = some (.slice e)) (he : P.underlying e = some .string) (hce : P.cellsOf e = 1) (hs : sz T = 1) (hc : ∀ x, cells T x = [.s (txt x)]) (hd : xs.map (fun x => DataW.lit (.string (txt x).data.toList)) = ds) : GIs w g [.fl T xs] := by
 subst hd
 refine at_slice hE T xs h hg hty ht hce hs (by simp) fun i x d v n q hx hd htr => ⟨_, hc x, ?_⟩
 rw [List.getElem?_map, hx] at hd
 simp only [Option.map_some, Option.some.injEq] at hd
 subst hd
 obtain ⟨m, e1, e2, _⟩ := DataW.trod_string he htr
 simp only [List.cons.injEq, and_true] at e1
 simp only [Prod.mk.injEq, DataW.lit.injEq, Lit.string.injEq] at e2
 have : m = txt x := ByteArray.ext (Array.toList_inj.1 e2.1.symm)
 rw [e1, this]
 exact .s _
inductive FnsL (P : Program) : List (Nat × Sig) → Prop
 | nil : FnsL P []
 | cons {f : Nat} {s : Sig} {l : List (Nat × Sig)} (h : P.funcs[f]? = some s.fn) (hb : (!(s.fn.name == "runtime.NumGoroutine") && s.fn.body.isSome) = true) (t : FnsL P l) : FnsL P ((f, s) :: l)
theorem FnsL.ok {l : List (Nat × Sig)} (h : FnsL P l) : ∀ f s, lk l f = some s → P.funcs[f]? = some s.fn ∧ (s.fn.name == "runtime.NumGoroutine") = false ∧ s.fn.body.isSome = true := by
 induction h with
 | nil => intro f s h; simp [lk] at h
 | cons h hb t ih =>
  rename_i f0 s0 l
  intro f s hs
  rw [lk_cons] at hs
  split at hs
  ·rename_i e
   subst e
   simp only [Option.some.injEq] at hs
   subst hs
   simp only [Bool.and_eq_true, Bool.not_eq_true'] at hb
   exact ⟨h, hb.1, hb.2⟩
  ·exact ih f s hs
end
end
end Go.KM
