/- Plain lemmas: an argument that can be read as data has a kind (Kd) of the print's words: whole numbers, bools, strings, slices, structs. No conditions. -/
import Derived.Test.YtajlomhnednghaaWWords
import Derived.Deep.Slices
import Derived.Deep.Fields
import Derived.ChangeSame
import Derived.WideShapes
import Derived.RowKit
namespace Go.Proofs.Ytajlomhnednghaa.Open
open Go.RowKit Go.Proofs.YtajlomhnednghaaW.PrintWords Go.ChangeShapes Go.WideShapes Go.Deep
set_option linter.unusedVariables false

/-- What reads as a datum of type t has the kind d and is good. -/
def Opens {α : Type} (P : Program) (t : TypeId) (d : Kd α) (G : α → Prop) : Prop :=
  ∀ (H : Type) (enc : TypeId × Value → H) (w : World) (base : Nat) (spare : Nat → Bool) (held : Bool) (fuel : Nat) (cs : List Value) (x : DataW H × List MemPlace),
    DataW.trod enc P w base spare held fuel t cs = some x → ∃ a, G a ∧ d.K w a cs

theorem opens_int {P : Program} {t : TypeId} {k : IntKind} (ht : P.underlying t = some (.int k)) : Opens P t (Kd.int k) (fun n => (Lit.int k n).wf = true) := by
  intro H enc w base spare held fuel cs x h
  obtain ⟨n, rfl, _, hw⟩ := DataW.trod_int ht h
  exact ⟨n, hw, rfl⟩
theorem opens_bool {P : Program} {t : TypeId} (ht : P.underlying t = some .bool) : Opens P t Kd.bool (fun _ => True) := by
  intro H enc w base spare held fuel cs x h
  obtain ⟨n, rfl, _⟩ := DataW.trod_bool ht h
  exact ⟨n, trivial, rfl⟩
theorem opens_string {P : Program} {t : TypeId} (ht : P.underlying t = some .string) : Opens P t Kd.string (fun s => s.size ≤ maxLen) := by
  intro H enc w base spare held fuel cs x h
  cases fuel with
  | zero => simp [DataW.trod] at h
  | succ n =>
    unfold DataW.trod at h
    rw [ht] at h
    split at h <;> simp_all
    obtain ⟨h, _⟩ := h
    exact ⟨_, h, rfl⟩

theorem opens_slice {α : Type} {P : Program} {t e : TypeId} {d : Kd α} {G : α → Prop} (E : Nat) (ht : P.underlying t = some (.slice e)) (hC : P.cellsOf e = d.sz) (he : Opens P e d G) :
    Opens P t (Kd.slice E d) (fun xs => xs.length ≤ maxLen ∧ ∀ x ∈ xs, G x) := by
  intro H enc w base spare held fuel cs x h
  rcases open_slice ht h with ⟨rfl, _⟩ | ⟨a, len, cap, m, n, D, Pl, rfl, hb, hl, hm, hmm, _, hi⟩
  · exact ⟨[], ⟨by simp, fun x hx => by simp at hx⟩, none, 0, rfl, by simp, by simp, by simp, fun h => by simp at h⟩
  · have hlm : len ≤ m := by rw [hmm]; split <;> omega
    have key : ∀ k, k ≤ len → ∃ xs : List α, xs.length = k ∧ (∀ x ∈ xs, G x) ∧ ∀ j p, xs[j]? = some p → ∃ c, c.length = d.sz ∧ d.K w p c ∧ ∀ i u, c[i]? = some u → w.cell? (a.add (j * d.sz + i)) = some u := by
      intro k
      induction k with
      | zero => exact fun _ => ⟨[], rfl, fun x hx => by simp at hx, fun j p hj => by simp at hj⟩
      | succ k ih =>
        intro hk
        obtain ⟨xs, h1, h2, h3⟩ := ih (by omega)
        obtain ⟨cs', hc, htr⟩ := hi k (by omega)
        obtain ⟨y, hg, hK⟩ := he _ _ _ _ _ _ _ _ _ htr
        obtain ⟨_, hcl, hat⟩ := World.cells?_some hc
        refine ⟨xs ++ [y], by simp [h1], ?_, ?_⟩
        · intro x hx
          rcases List.mem_append.1 hx with hx | hx
          · exact h2 x hx
          · rw [List.mem_singleton.1 hx]; exact hg
        · intro j p hj
          rcases Nat.lt_or_ge j xs.length with hjl | hjl
          · rw [List.getElem?_append_left hjl] at hj
            exact h3 j p hj
          · rw [List.getElem?_append_right hjl] at hj
            have hj0 : j - xs.length = 0 := by
              rcases Nat.eq_zero_or_pos (j - xs.length) with h0 | h0
              · exact h0
              · rw [List.getElem?_eq_none (by simp; omega)] at hj; cases hj
            rw [hj0] at hj
            simp only [List.getElem?_cons_zero, Option.some.injEq] at hj
            subst hj
            obtain rfl : j = k := by omega
            rw [hC] at hcl hat
            refine ⟨cs', hcl, hK, fun i u hu => ?_⟩
            have hil : i < d.sz := by
              rw [← hcl]; exact (List.getElem?_eq_some_iff.1 hu).1
            rw [← Go.Deep.add_add, hat i hil, hu]
    obtain ⟨xs, h1, h2, h3⟩ := key len (Nat.le_refl _)
    refine ⟨xs, ⟨by omega, h2⟩, some a, cap, by rw [h1], by omega, rfl, by unfold maxLen at hm; omega, fun _ => ⟨a, rfl, h3⟩⟩

/-- The fields of a struct from the cell `off` on. -/
def OpensFields {α : Type} (P : Program) (fs : List Field) (off : Nat) (d : Kd α) (G : α → Prop) : Prop :=
  ∀ (H : Type) (enc : TypeId × Value → H) (w : World) (base : Nat) (spare : Nat → Bool) (held : Bool) (n : Nat) (cs : List Value), cs.length = off + d.sz →
    (∀ (j : Nat) (f : Field), fs[j]? = some f → ∃ y, DataW.trod enc P w base spare held n f.type ((cs.drop f.offset).take (P.cellsOf f.type)) = some y) → ∃ a, G a ∧ d.K w a (cs.drop off)

theorem fields_one {α : Type} {P : Program} {f : Field} {off : Nat} (ty : TypeId) {d : Kd α} {G : α → Prop} (ht : f.type = ty) (ho : f.offset = off) (hC : P.cellsOf ty = d.sz) (h : Opens P ty d G) : OpensFields P [f] off d G := by
  subst ht
  intro H enc w base spare held n cs hl hf
  obtain ⟨y, hy⟩ := hf 0 f rfl
  obtain ⟨a, hg, hK⟩ := h _ _ _ _ _ _ _ _ _ hy
  rw [ho, hC, List.take_of_length_le (by simp; omega)] at hK
  exact ⟨a, hg, hK⟩
theorem fields_cons {α β : Type} {P : Program} {f : Field} {fs : List Field} {off off' : Nat} (ty : TypeId) {d : Kd α} {d' : Kd β} {G : α → Prop} {G' : β → Prop} (ht : f.type = ty) (ho : f.offset = off) (hC : P.cellsOf ty = d.sz) (ho' : off' = off + d.sz)
    (h : Opens P ty d G) (h' : OpensFields P fs off' d' G') : OpensFields P (f :: fs) off (Kd.pair d d') (fun x => G x.1 ∧ G' x.2) := by
  subst ht
  intro H enc w base spare held n cs hl hf
  obtain ⟨y, hy⟩ := hf 0 f rfl
  obtain ⟨a, hg, hK⟩ := h _ _ _ _ _ _ _ _ _ hy
  have hl2 : cs.length = off + (d.sz + d'.sz) := hl
  obtain ⟨b, hg', hK'⟩ := h' H enc w base spare held n cs (by omega) (fun j g hj => hf (j + 1) g (by simpa using hj))
  rw [ho, hC] at hK
  refine ⟨(a, b), ⟨hg, hg'⟩, _, _, ?_, hK, hK'⟩
  rw [ho', ← List.drop_drop, List.take_append_drop]
theorem opens_struct {α : Type} {P : Program} {t : TypeId} {fl : List Field} {d : Kd α} {G : α → Prop} (ht : P.underlying t = some (.struct fl.toArray)) (hC : P.cellsOf t = d.sz) (h : OpensFields P fl 0 d G) : Opens P t d G := by
  intro H enc w base spare held fuel cs x hx
  obtain ⟨ys, n, _, hy, hlen, hyl, hf⟩ := DataW.trod_struct ht hx
  have := h H enc w base spare held n cs (by omega) (fun j f hj => by
    have hj' : fl.toArray[j]? = some f := by simpa using hj
    have h1 := hf j f hj'
    have hjl : j < ys.length := by
      rw [hyl]; exact (Array.getElem?_eq_some_iff.1 hj').1
    exact ⟨_, h1.trans (List.getElem?_eq_getElem hjl)⟩)
  simpa using this
theorem opens_iso {α β : Type} {P : Program} {t : TypeId} {d : Kd α} {f : β → α} (g : α → β) {G : α → Prop} (hfg : ∀ a, f (g a) = a) (h : Opens P t d G) : Opens P t (Kd.iso d f) (fun b => G (f b)) := by
  intro H enc w base spare held fuel cs x hx
  obtain ⟨a, hg, hK⟩ := h _ _ _ _ _ _ _ _ _ hx
  refine ⟨g a, by show G (f (g a)); rw [hfg]; exact hg, ?_⟩
  show d.K w (f (g a)) cs
  rw [hfg]; exact hK
/-- A parameter. -/
theorem opens_arg {α : Type} {P : Program} {t : TypeId} {d : Kd α} {G : α → Prop} (h : Opens P t d G) {H : Type} {enc : TypeId × Value → H} {w : World} {base : Nat} {spare : Nat → Bool} {held : Bool} {v : Value} {x : DataW H} {p : List MemPlace}
    (hx : DataW.Trod enc P w base spare held t v x p) : ∃ a, G a ∧ d.K w a v.cells.toList := by
  obtain ⟨fuel, hf⟩ := hx
  exact h _ _ _ _ _ _ _ _ _ hf
end Go.Proofs.Ytajlomhnednghaa.Open
