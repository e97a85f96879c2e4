/- Tables by lists, callees by lists. Conditions: none. -/
import Derived.Test.YtojkcmefnmcpiaaGreatDoorKmQq
namespace Go.KM
open Go
open Fam (Dn dflt)
open Enc (cells sz mkE glob gany u8)
set_option autoImplicit false
set_option linter.unusedVariables false
set_option linter.unusedSimpArgs false
set_option linter.unusedSectionVars false
section
section
variable [Enc] {P : Program}
structure Ent where
 k : TK
 by_ : Nat
 cz : Nat
 zr : Option (List PV)
 off : List (Nat × Nat)
 flat : Bool
 ft : List Nat := []
 sf : Bool := false
 se : Nat := 0
def e1 (k : TK) (by_ cz : Nat) (zr : Option (List PV)) : Ent := ⟨k, by_, cz, zr, [], false, [], false, 0⟩
def entOf (l : List (Nat × Ent)) (t : Nat) : Ent :=
 match lk l t with
 | some e => e
 | none => ⟨.unk, 0, 0, none, [], false, [], false, 0⟩
def tabOf (l : List (Nat × Ent)) : Tab where
 K t := (entOf l t).k
 by_ t := (entOf l t).by_
 cz t := (entOf l t).cz
 zr t := (entOf l t).zr
 off t f := (entOf l t).off[f]?
 ft t f := (entOf l t).ft[f]?
 flat t := bif (entOf l t).flat then (entOf l t).zr else none
 sf t := (entOf l t).sf
 se t := (entOf l t).se
def kOk (P : Program) (l : List (Nat × Ent)) (t : Nat) (e : Ent) : Prop :=
 match e.k with
 | .int k => P.underlying t = some (.int k)
 | .bool => P.underlying t = some .bool
 | .str => P.underlying t = some .string
 | .slice el => P.underlying t = some (.slice el) ∧ (entOf l el).cz = sz el ∧ 0 < sz el ∧
   ∃ i z, P.info? el = some i ∧ i.size = sz el ∧ i.bytes = (entOf l el).by_ ∧ 0 < i.bytes ∧ i.zero = some z ∧ z.cells.size = sz el
 | .ptr el => P.underlying t = some (.pointer el)
 | .iface => ∃ ms, P.underlying t = some (.interface ms)
 | .map el => ∃ k v i, P.underlying t = some (.map k el) ∧ P.underlying k = some .string ∧ P.info? el = some i ∧ i.zero = some v ∧ v.cells = #[v]
 | .mapP el => ∃ k v i, P.underlying t = some (.map k el) ∧ PairOk P k ∧ P.info? el = some i ∧ i.zero = some v ∧ v.cells = #[v]
 | .struct => ∃ fs, P.underlying t = some (.struct fs)
 | .other => ∃ dd, P.underlying t = some dd ∧ (match dd with | .struct _ | .array _ _ => False | _ => True)
 | .unk => True
structure EntOk (P : Program) (l : List (Nat × Ent)) (t : Nat) (e : Ent) : Prop where
 k : kOk P l t e
 cz : 0 < e.cz → ∃ i, P.info? t = some i ∧ i.size = e.cz
 zr : ∀ z, e.zr = some z → ∃ i v, P.info? t = some i ∧ i.zero = some v ∧ i.size = z.length ∧ v.cells.size = z.length ∧ z.all PV.plain = true ∧ (∀ g : G, CellsAt g v.cells 0 z) ∧ e.cz = z.length ∧ 0 < z.length
 off : ∀ (f o n : Nat), e.off[f]? = some (o, n) → ∃ (fs : Array Field) (fd : Field) (i : _), P.underlying t = some (.struct fs) ∧ fs[f]? = some fd ∧ fd.offset = o ∧ P.info? fd.type = some i ∧ i.size = n ∧ 0 < n
 ft : ∀ (f U : Nat), e.ft[f]? = some U → ∃ (fs : Array Field) (fd : Field), P.underlying t = some (.struct fs) ∧ fs[f]? = some fd ∧ fd.type = U
 bld : ∀ z, e.zr = some z → e.k = .struct → ∃ (i : _) (fs : Array Field) (places : List (Nat × Nat)), P.info? t = some i ∧ P.underlying t = some (.struct fs) ∧ fs.toList.mapM (fun f => (P.info? f.type).map fun i => (f.offset, i.size)) = some places ∧
  ∀ (f o n : Nat), e.off[f]? = some (o, n) → places.toArray[f]? = some (o, n)
 flat : ∀ z, e.flat = true → e.zr = some z → FlatOk P t z
theorem entOf_cases (l : List (Nat × Ent)) (t : Nat) : (∃ e, lk l t = some e ∧ entOf l t = e) ∨ entOf l t = ⟨.unk, 0, 0, none, [], false, [], false, 0⟩ := by
 unfold entOf
 cases h : lk l t with
 | some e => exact .inl ⟨e, rfl, rfl⟩
 | none => exact .inr rfl
theorem tabOk_of {l : List (Nat × Ent)} (hE : EncOk) (h : ∀ t e, lk l t = some e → EntOk P l t e) : TabOk P (tabOf l) ∧ ∀ t z, (tabOf l).flat t = some z → FlatOk P t z := by
 have key : ∀ t, EntOk P l t (entOf l t) ∨ entOf l t = ⟨.unk, 0, 0, none, [], false, [], false, 0⟩ := fun t => by
  rcases entOf_cases l t with ⟨e, h1, h2⟩ | h1
  ·rw [h2]; exact .inl (h t e h1)
  ·exact .inr h1
 have kk : ∀ t x, (entOf l t).k = x → (∀ (e : Ent), e.k = x → kOk P l t e → kOk P l t (entOf l t)) := fun t x hx e he h1 => by
  rcases key t with h2 | h2
  ·exact h2.k
  ·simp only [kOk, h2]
 have kOf : ∀ t, kOk P l t (entOf l t) := fun t => by
  rcases key t with h2 | h2
  ·exact h2.k
  ·simp only [kOk, h2]
 refine ⟨⟨fun t k hk => ?_, fun t hk => ?_, fun t hk => ?_, fun t el hk => ?_, fun t hk => ?_, fun t el hk => ?_, fun t el hk => ?_, fun t el hk => ?_, fun t hk => ?_, fun t hk => ?_, fun t hz => ?_, fun t z hz => ?_, fun t f o n ho => ?_, fun t f U ho => ?_, fun t z hz hk => ?_, hE⟩, fun t z hf => ?_⟩
 ·have := kOf t; have hk : (entOf l t).k = _ := hk; simpa only [kOk, hk] using this
 ·have := kOf t; have hk : (entOf l t).k = _ := hk; simpa only [kOk, hk] using this
 ·have := kOf t; have hk : (entOf l t).k = _ := hk; simpa only [kOk, hk] using this
 ·have := kOf t; have hk : (entOf l t).k = _ := hk; simp only [kOk, hk] at this; exact this
 ·have := kOf t; have hk : (entOf l t).k = _ := hk; simpa only [kOk, hk] using this
 ·have := kOf t; have hk : (entOf l t).k = _ := hk; simp only [kOk, hk] at this; exact this
 ·have := kOf t; have hk : (entOf l t).k = _ := hk; simp only [kOk, hk] at this; exact this
 ·have := kOf t; have hk : (entOf l t).k = _ := hk; simpa only [kOk, hk] using this
 ·have := kOf t; have hk : (entOf l t).k = _ := hk; simpa only [kOk, hk] using this
 ·have := kOf t; have hk : (entOf l t).k = _ := hk; simp only [kOk, hk] at this
  obtain ⟨dd, h1, h2⟩ := this
  exact ⟨dd, h1, by cases dd <;> first | exact h2 | trivial⟩
 ·rcases key t with h1 | h1
  ·exact h1.cz hz
  ·have hz : 0 < (entOf l t).cz := hz; rw [h1] at hz; simp at hz
 ·rcases key t with h1 | h1
  ·exact h1.zr z hz
  ·have hz : (entOf l t).zr = _ := hz; rw [h1] at hz; simp at hz
 ·rcases key t with h1 | h1
  ·exact h1.off f o n ho
  ·have ho : (entOf l t).off[f]? = _ := ho; rw [h1] at ho; simp at ho
 ·rcases key t with h1 | h1
  ·exact h1.ft f U ho
  ·have ho : (entOf l t).ft[f]? = _ := ho; rw [h1] at ho; simp at ho
 ·rcases key t with h1 | h1
  ·exact h1.bld z hz hk
  ·have hz : (entOf l t).zr = _ := hz; rw [h1] at hz; simp at hz
 ·rcases key t with h1 | h1
  ·have hf : (bif (entOf l t).flat then (entOf l t).zr else none) = some z := hf
   cases hb : (entOf l t).flat with
   | false => simp [hb] at hf
   | true => rw [hb] at hf; exact h1.flat z hb hf
  ·have hf : (bif (entOf l t).flat then (entOf l t).zr else none) = some z := hf; rw [h1] at hf; simp at hf
theorem lk_all {α : Type} {l : List (Nat × α)} {Q : Nat → α → Prop} (h : ∀ x ∈ l, Q x.1 x.2) : ∀ t e, lk l t = some e → Q t e := by
 induction l with
 | nil => intro t e h; simp [lk] at h
 | cons x l ih =>
  obtain ⟨u, y⟩ := x
  intro t e he
  rw [lk_cons] at he
  split at he
  ·rename_i hu
   simp only [Option.some.injEq] at he
   subst hu he
   exact h (u, y) (by simp)
  ·exact ih (fun x hx => h x (by simp [hx])) t e he
def EntA : Type 1 := List PV → (β : Type) → (PV → Option β) → Option β
def lkA : List (Nat × EntA) → Nat → Option EntA
 | [], _ => none
 | (u, x) :: r, t => bif Nat.beq u t then some x else lkA r t
def EOk (P : Program) (f : Nat) (e : EntA) : Prop := ∀ (ps : List PV) (β : Type) (K : PV → Option β) (r : β), e ps β K = some r → Real P f ∧ ∃ v, Con P false f ps [] v [] ∧ v.noLoc = true ∧ K v = some r
inductive AllA (P : Program) : List (Nat × EntA) → Prop
 | nil : AllA P []
 | cons {f : Nat} {e : EntA} {l : List (Nat × EntA)} (h : EOk P f e) (h' : AllA P l) : AllA P ((f, e) :: l)
theorem AllA.get {l : List (Nat × EntA)} (h : AllA P l) : ∀ f e, lkA l f = some e → EOk P f e := by
 induction h with
 | nil => intro f e h; simp [lkA] at h
 | @cons u y l h h' ih =>
  intro f e he
  simp only [lkA] at he
  cases hb : Nat.beq u f with
  | true =>
   simp only [hb, cond_true, Option.some.injEq] at he
   subst he
   rw [← Nat.eq_of_beq_eq_true hb]
   exact h
  | false =>
   simp only [hb, cond_false] at he
   exact ih f e he
def ctxAt (ct : Nat → Bool) : List Bool → Code → Nat → List TI → List TI
 | [], c, p, k => .code c p :: k
 | false :: r, .seq a b, p, k => ctxAt ct r a (2 * p) (.code b (2 * p + 1) :: k)
 | true :: r, .seq a b, p, k => ctxAt ct r b (2 * p + 1) k
 | false :: r, .block id b, p, k => ctxAt ct r b (2 * p) (.inBlock id :: k)
 | false :: r, .loop b, p, k => ctxAt ct r b (2 * p) (.inLoop b p :: k)
 | false :: r, .cond _ x _, p, k => ctxAt ct r x (2 * p) (bif ct p then .cut p :: k else k)
 | true :: r, .cond _ _ y, p, k => ctxAt ct r y (2 * p + 1) (bif ct p then .cut p :: k else k)
 | _, c, p, k => .code c p :: k
end
end
section
section
variable [Enc] {P : Program}
def idxN (i : Nat) : List Nat → Nat
 | [] => 0
 | j :: r => bif Nat.beq j i then 0 else Nat.succ (idxN i r)
def memN (i : Nat) : List Nat → Bool
 | [] => false
 | j :: r => Nat.beq j i || memN i r
structure Ren (g g' : G) (σ : Nat → Nat) (ok : Nat → Bool) : Prop where
 s : Same g g'
 no : ∀ i, ok i = true → σ i < g'.no
 oa : ∀ i, ok i = true → g'.oa (σ i) = g.oa i
 fe : ∀ i, ok i = true → (g'.fe (g.oa i)).1 = (g.fe (g.oa i)).1
variable (hnob : ∀ (T : Nat) (x : Dn T), (cells T x).all PV.nob1 = true)
include hnob
omit hnob
def ConS (P : Program) (f : FuncId) (args : List PV) (M : List (List PV)) (v : PV) (M' : List (List PV)) : Prop :=
 ∀ (d : Nat) (g : G) (w : World) (vals : Array Value), vals.size = args.length → (∀ i p, args[i]? = some p → ∃ u, vals[i]? = some u ∧ RepV g w (.ar d i) p u) → MemRep g w M → M.length = g.no → WF g w →
  Calls P f vals w fun en w' => ∃ r g', en = .returned r ∧ RepT g' w' (Key.rt d) v r ∧ MemRep g' w' M' ∧ WF g' w' ∧ Ext d M.length g w g' w'
theorem fn_soundS {f : FuncId} {G : Fn} {c : Code} {C : CTab} {β : Type} {Kr : PV → List (List PV) → Option β} {res : β} {n : Nat} {ps : List PV} {M : List (List PV)} {v : PV} {M' : List (List PV)}
  (hf : FnOk P f G c) (hT : TabOk P G.x.T) (hF : ∀ t z, G.x.T.flat t = some z → FlatOk P t z) (hC : CTabOk P C) (hps : ps.all argOk = true) (hn : ps.length ≤ G.x.nt) (he : G.x.e = true) (hX : ∀ t, G.x.xt t = true → false = true) (hw : G.w = false)
  (hK : ∀ pv M2, Kr pv M2 = some res → (∀ (g : KM.G) (w : World) (κ : Nat → Key) (r : Value), RepT g w κ pv r → RepT g w κ v r) ∧ ∀ (g : KM.G) (w : World), MemRep g w M2 → MemRep g w M') (h : ev G C Kr n [.code c 1] (entry ps M) = some res) : ConS P f ps M v M' := by
 intro d g w vals h1 h2 h3 h4 h5
 refine (fn_soundX (cs := []) (v := v) (R := fun M2 _ => ∀ (g : KM.G) (w : World), MemRep g w M2 → MemRep g w M') hf hT hF hC hps hn (fun hh => absurd (he.symm.trans hh) (by simp)) hX (fun pv M2 cs2 hk => by rw [hw] at hk; exact hK pv M2 hk) h d g w vals h1 h2 h3 (fun _ => h4) (fun i p hi => by simp at hi) h5).mono fun e w' ⟨r, g', M2, cs2, k1, k2, k4, k5, k6, k7, k8, k9, k10, k11⟩ => ?_
 rw [setVa_eq (k11 rfl)] at k10
 exact ⟨r, g', k1, k4, k2 _ _ k5, k9, k10⟩
include hnob
end
end
end Go.KM
