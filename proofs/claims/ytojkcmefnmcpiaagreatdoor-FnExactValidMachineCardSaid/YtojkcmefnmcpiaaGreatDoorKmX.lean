/- Tables that a program's own facts decide. Conditions: none. -/
import Derived.Test.YtojkcmefnmcpiaaGreatDoorKmW
import Derived.Laws.StructEq
namespace Go.KM
open Go
open Fam (Dn dflt)
open Enc (cells sz mkE glob gany u8)
set_option autoImplicit false
set_option linter.unusedVariables false
set_option linter.unusedSimpArgs false
set_option linter.unusedSectionVars false
section
variable [Fam]
def cB (p : PV) : Option Bool := match p with | .b x => some x | _ => none
def cS (p : PV) : Option ByteArray := match p with | .s x => some x | _ => none
def cI (k : IntKind) (p : PV) : Option Int := match p with | .i k' x => bif kEq k k' then some x else none | _ => none
def cF (T : Nat) (p : PV) : Option (List (Dn T)) := match p with
 | .fl U xs => if h : U = T then some (h ▸ xs) else none
 | .nl => some []
 | _ => none
def cO (T : Nat) (p : PV) : Option (Option (List (Dn T))) := match p with
 | .fo U x => if h : U = T then some (h ▸ x) else none
 | .nl => some none
 | _ => none
def m1 {α : Type} (c : PV → Option α) : List PV → Option α
 | [p] => c p
 | _ => none
structure TyRow (T : Nat) where
 n : Nat
 cells : Dn T → List PV
 rd : List PV → Option (Dn T)
def cellsOf (row : (T : Nat) → Option (TyRow T)) (T : Nat) (x : Dn T) : List PV :=
 match row T with
 | some r => r.cells x
 | none => []
def szOf (row : (T : Nat) → Option (TyRow T)) (T : Nat) : Nat :=
 match row T with
 | some r => r.n
 | none => 0
def mkOf (row : (T : Nat) → Option (TyRow T)) (T : Nat) (cs : List PV) : Option (Dn T) :=
 match row T with
 | some r => r.rd cs
 | none => none
end
@[reducible] def encOf (fam : Fam) (row : (T : Nat) → Option (TyRow T)) (gl : Nat → Option (Sigma fun T => Dn T)) (ga : Nat → Option IntKind) (u : (T : Nat) → Option (Dn T → Int)) (pk : Nat → Bool := fun _ => false) : Enc where
 toFam := fam
 cells := cellsOf row
 sz := szOf row
 mkE := mkOf row
 glob := gl
 gany := ga
 u8 := u
 pk := pk
section
variable [Enc]
theorem Wc.id (p : PV) : Wc p p := ⟨fun _ _ h => h, fun _ _ h => h, fun _ _ h => .inl h⟩
theorem cB_w {p : PV} {x : Bool} (h : cB p = some x) : Wc p (.b x) := by
 cases p <;> simp only [cB, reduceCtorEq, Option.some.injEq] at h
 subst h; exact .id _
theorem cS_w {p : PV} {x : ByteArray} (h : cS p = some x) : Wc p (.s x) := by
 cases p <;> simp only [cS, reduceCtorEq, Option.some.injEq] at h
 subst h; exact .id _
theorem cI_w {k : IntKind} {p : PV} {x : Int} (h : cI k p = some x) : Wc p (.i k x) := by
 cases p <;> simp only [cI, reduceCtorEq] at h
 rename_i k' n
 cases hk : kEq k k' with
 | false => rw [hk] at h; simp at h
 | true =>
  rw [hk] at h
  have h : some n = some x := h
  rw [← Option.some.inj h, kEq_eq hk]; exact .id _
theorem cF_w {T : Nat} {p : PV} {x : List (Dn T)} (h : cF T p = some x) : Wc p (.fl T x) := by
 cases p <;> simp only [cF, reduceCtorEq] at h
 ·simp only [Option.some.injEq] at h
  subst h
  refine ⟨fun g v hv => ?_, fun U xs hh => by simp at hh, fun U xs hh => .inr ⟨rfl, ?_⟩⟩
  ·cases hv
   exact .fl0 T
  ·simp only [PV.fl.injEq] at hh
   obtain ⟨rfl, hh⟩ := hh
   exact (eq_of_heq hh).symm
 ·split at h
  ·rename_i hh
   subst hh
   simp only [Option.some.injEq] at h
   subst h
   exact .id _
  ·simp at h
theorem cO_w {T : Nat} {p : PV} {x : Option (List (Dn T))} (h : cO T p = some x) : Wc p (.fo T x) := by
 cases p <;> first | (simp only [cO, reduceCtorEq] at h; done) | skip
 ·simp only [cO, Option.some.injEq] at h
  subst h
  exact ⟨fun g v hv => by cases hv; exact .foN T, fun _ _ hh => by simp at hh, fun _ _ hh => by simp at hh⟩
 ·simp only [cO] at h
  split at h
  ·rename_i hh
   subst hh
   have h := Option.some.inj h
   subst h
   exact .id _
  ·simp at h
theorem ob {α β : Type} {x : Option α} {f : α → Option β} {r : β} (h : obind x f = some r) : ∃ a, x = some a ∧ f a = some r := by
 cases x with
 | none => simp [obind] at h
 | some a => exact ⟨a, rfl, h⟩
inductive Ws : List PV → List PV → Prop
 | nil : Ws [] []
 | cons {p q : PV} {ps qs : List PV} (h : Wc p q) (h' : Ws ps qs) : Ws (p :: ps) (q :: qs)
theorem m1_w {α : Type} {c : PV → Option α} {e : α → PV} (hc : ∀ {p : PV} {x : α}, c p = some x → Wc p (e x)) {cs : List PV} {x : α} (h : m1 c cs = some x) : Ws cs [e x] := by
 unfold m1 at h
 split at h
 ·exact .cons (hc h) .nil
 ·simp at h
theorem Ws.ok {ps qs : List PV} (h : Ws ps qs) : ps.length = qs.length ∧ ∀ (g : G) (A : Array Go.Value) (o : Nat), CellsAt g A o ps → CellsAt g A o qs := by
 induction h with
 | nil => exact ⟨rfl, fun _ _ _ h => h⟩
 | @cons p q ps qs h h' ih =>
  refine ⟨by simp [ih.1], fun g A o hc j c hj => ?_⟩
  cases j with
  | zero =>
   simp only [List.getElem?_cons_zero, Option.some.injEq] at hj
   subst hj
   obtain ⟨u, h1, h2⟩ := hc 0 p rfl
   exact ⟨u, h1, h.f g u h2⟩
  | succ j =>
   simp only [List.getElem?_cons_succ] at hj
   obtain ⟨u, h1, h2⟩ := ih.2 g A (o + 1) (fun j c hj => by
    obtain ⟨u, h1, h2⟩ := hc (j + 1) c (by simpa using hj)
    exact ⟨u, by rw [← h1]; congr 1; omega, h2⟩) j c hj
   exact ⟨u, by rw [← h1]; congr 1; omega, h2⟩
theorem Ws.at_ {ps qs : List PV} (h : Ws ps qs) : ∀ (j : Nat) (c : PV), qs[j]? = some c → ∃ p, ps[j]? = some p ∧ Wc p c := by
 induction h with
 | nil => intro j c hj; simp at hj
 | @cons p q ps qs h h' ih =>
  intro j c hj
  cases j with
  | zero =>
   simp only [List.getElem?_cons_zero, Option.some.injEq] at hj
   subst hj
   exact ⟨p, rfl, h⟩
  | succ j => exact ih j c hj
structure RowOk (T : Nat) (r : TyRow T) : Prop where
 len : ∀ x, (r.cells x).length = r.n
 plain : ∀ x, (r.cells x).all PV.plain = true
 nob : ∀ x, (r.cells x).all PV.nob1 = true
 rd : ∀ cs x, r.rd cs = some x → Ws cs (r.cells x)
 flat : (r.cells (dflt T)).all PV.flat1 = true → ∀ x, (r.cells x).all PV.flat1 = true
theorem rok {T : Nat} {r r' : TyRow T} (ok : RowOk T r) (h : some r = some r') : RowOk T r' := by cases h; exact ok
end
theorem encOf_ok {fam : Fam} {row : (T : Nat) → Option (TyRow T)} {gl : Nat → Option (Sigma fun T => Dn T)} {ga : Nat → Option IntKind} {u : (T : Nat) → Option (Dn T → Int)} {pk : Nat → Bool}
  (h : ∀ (T : Nat) (r : TyRow T), row T = some r → @RowOk (encOf fam row gl ga u pk) T r) (hu : ∀ (T : Nat) (f : Dn T → Int), u T = some f → szOf row T = 1 ∧ (∀ x, cellsOf row T x = [.i .u8 (f x)]) ∧ ∀ n, ∃ x, mkOf row T [.i .u8 n] = some x) : @EncOk (encOf fam row gl ga u pk) := by
 letI : Enc := encOf fam row gl ga u pk
 refine @EncOk.mk (encOf fam row gl ga u pk) (fun T f hf => ⟨(hu T f hf).1, (hu T f hf).2.1⟩) (fun T f n hf => (hu T f hf).2.2 n) (fun T x => ?_) (fun T x => ?_) (fun T x => ?_) (fun T cs x hm j c hj => ?_) (fun T hf x => ?_) (fun T cs x hm => ?_)
 ·show (cellsOf row T x).length = szOf row T
  unfold cellsOf szOf
  cases hr : row T with
  | none => rfl
  | some r => exact (h T r hr).len x
 ·show (cellsOf row T x).all PV.plain = true
  unfold cellsOf
  cases hr : row T with
  | none => rfl
  | some r => exact (h T r hr).plain x
 ·show (cellsOf row T x).all PV.nob1 = true
  unfold cellsOf
  cases hr : row T with
  | none => rfl
  | some r => exact (h T r hr).nob x
 ·have hm : mkOf row T cs = some x := hm
  have hj : (cellsOf row T x)[j]? = some c := hj
  unfold mkOf at hm
  unfold cellsOf at hj
  cases hr : row T with
  | none => rw [hr] at hm; simp at hm
  | some r =>
   rw [hr] at hm hj
   exact ((h T r hr).rd cs x hm).at_ j c hj
 ·have hf : (cellsOf row T (dflt T)).all PV.flat1 = true := hf
  show (cellsOf row T x).all PV.flat1 = true
  unfold cellsOf at hf ⊢
  cases hr : row T with
  | none => rfl
  | some r =>
   rw [hr] at hf
   exact (h T r hr).flat hf x
 ·have hm : mkOf row T cs = some x := hm
  show cs.length = szOf row T ∧ _
  unfold mkOf at hm
  unfold szOf
  cases hr : row T with
  | none => rw [hr] at hm; simp at hm
  | some r =>
   rw [hr] at hm
   have key := (h T r hr).rd cs x hm
   refine ⟨(Ws.ok key).1.trans ((h T r hr).len x), fun g A o hc => ?_⟩
   show CellsAt g A o (cellsOf row T x)
   unfold cellsOf
   rw [hr]
   exact (Ws.ok key).2 g A o hc
section
variable [Enc] {P : Program}
def zeroB (c : PV) (v : Value) : Bool :=
 match c, v with
 | .b x, .bool y => x == y
 | .i k n, .int k' m => kEq k k' && n == m
 | .s x, .string y => x.size == 0 && y.size == 0
 | .nl, .slice none 0 0 => true
 | .np, .pointer none => true
 | .ifc true, .nilIface => true
 | .zo 0, .nilFunc => true
 | .zo 1, .map none => true
 | _, _ => false
theorem ba0 {x : ByteArray} (h : x.size = 0) : x = ⟨#[]⟩ := by
 obtain ⟨d⟩ := x
 have h : d.size = 0 := h
 have : d = #[] := Array.eq_empty_of_size_eq_zero h
 rw [this]
theorem zeroB_ok {c : PV} {v : Value} (h : zeroB c v = true) : c.plain = true ∧ ∀ g : G, RepF g c v := by
 unfold zeroB at h
 split at h
 ·simp only [beq_iff_eq] at h; subst h; exact ⟨rfl, fun g => .b _⟩
 ·simp only [Bool.and_eq_true, beq_iff_eq] at h
  obtain ⟨h1, rfl⟩ := h
  rw [kEq_eq h1]
  exact ⟨rfl, fun g => .i _ _⟩
 ·simp only [Bool.and_eq_true, beq_iff_eq] at h
  rw [ba0 h.1, ba0 h.2]
  exact ⟨rfl, fun g => .s _⟩
 ·exact ⟨rfl, fun g => .nl⟩
 ·exact ⟨rfl, fun g => .np⟩
 ·exact ⟨rfl, fun g => .ifcN⟩
 ·exact ⟨rfl, fun g => .zf⟩
 ·exact ⟨rfl, fun g => .zm⟩
 ·simp at h
def zerosB : List PV → List Value → Bool
 | [], [] => true
 | c :: cs, v :: vs => zeroB c v && zerosB cs vs
 | _, _ => false
theorem zerosB_ok : ∀ {cs : List PV} {vs : List Value}, zerosB cs vs = true → cs.length = vs.length ∧ cs.all PV.plain = true ∧ ∀ (g : G) (j : Nat) (c : PV), cs[j]? = some c → ∃ u, vs[j]? = some u ∧ RepF g c u := by
 intro cs
 induction cs with
 | nil => intro vs h; cases vs with
  | nil => exact ⟨rfl, rfl, fun g j c hj => by simp at hj⟩
  | cons => simp [zerosB] at h
 | cons c cs ih =>
  intro vs h
  cases vs with
  | nil => simp [zerosB] at h
  | cons v vs =>
   simp only [zerosB, Bool.and_eq_true] at h
   obtain ⟨h1, h2⟩ := zeroB_ok h.1
   obtain ⟨h3, h4, h5⟩ := ih h.2
   refine ⟨by simp [h3], by simp [h1, h4], fun g j c' hj => ?_⟩
   cases j with
   | zero => simp only [List.getElem?_cons_zero, Option.some.injEq] at hj; subst hj; exact ⟨v, rfl, h2 g⟩
   | succ j => simp only [List.getElem?_cons_succ] at hj ⊢; exact h5 g j c' hj
def flatF (P : Program) : Nat → List Field → List PV → Bool
 | _, [], [] => true
 | k, f :: fs, z :: zs => (f.name != "_" && f.offset == k && match P.underlying f.type, z with
  | some (.int _), .i _ _ => true
  | some .bool, .b _ => true
  | some .string, .s _ => true
  | _, _ => false) && flatF P (k + 1) fs zs
 | _, _, _ => false
def flatB (P : Program) (t : Nat) (z : List PV) : Bool :=
 !P.eqGuardType P.depth t && (!P.stoodInHeld t && match P.underlying t with
  | some (.struct fs) => flatF P 0 fs.toList z
  | _ => false)
theorem flat_fields {g : G} {w : World} {A B : Array Value} (d : Nat) : ∀ (fs : List Field) (k : Nat) (z cs ds : List PV) (r : Bool), flatF P k fs z = true → shps z cs = true → shps z ds = true →
  (∀ (j : Nat) (c : PV), cs[j]? = some c → ∃ u, A[k + j]? = some u ∧ RepF g c u) → (∀ (j : Nat) (c : PV), ds[j]? = some c → ∃ u, B[k + j]? = some u ∧ RepF g c u) → eqCs cs ds = some r →
  (Op.eqFields (d + 1) A B fs).run P w = .ok r w := by
 intro fs
 induction fs with
 | nil =>
  intro k z cs ds r hz hc hd hA hB he
  cases z with
  | cons => simp [flatF] at hz
  | nil =>
   cases cs with
   | cons => simp [shps] at hc
   | nil =>
    cases ds with
    | cons => simp [shps] at hd
    | nil => simp only [eqCs, Option.some.injEq] at he; subst he; simp [Op.eqFields]
 | cons f fs ih =>
  intro k z cs ds r hz hc hd hA hB he
  cases z with
  | nil => simp [flatF] at hz
  | cons z0 z =>
  cases cs with
  | nil => simp [shps] at hc
  | cons c cs =>
  cases ds with
  | nil => simp [shps] at hd
  | cons e ds =>
  simp only [flatF, Bool.and_eq_true, beq_iff_eq] at hz
  simp only [shps, Bool.and_eq_true] at hc hd
  obtain ⟨⟨⟨hn, ho⟩, ht⟩, hz⟩ := hz
  obtain ⟨u, hu, hru⟩ := hA 0 c rfl
  obtain ⟨v, hv, hrv⟩ := hB 0 e rfl
  rw [Nat.add_zero, ← ho] at hu hv
  simp only [eqCs] at he
  cases h1 : eqC c e with
  | none => simp [h1] at he
  | some a =>
  cases h2 : eqCs cs ds with
  | none => simp [h1, h2] at he
  | some b =>
  simp only [h1, h2, Option.some.injEq] at he
  subst he
  have hr := ih (k + 1) z cs ds b hz hc.2 hd.2 (fun j c hj => by have := hA (j + 1) c hj; rw [show k + 1 + j = k + (j + 1) by omega]; exact this) (fun j c hj => by have := hB (j + 1) c hj; rw [show k + 1 + j = k + (j + 1) by omega]; exact this) h2
  have hn' : f.name ≠ "_" := by simpa using hn
  have key : (Op.equalIn (d + 1) f.type u v).run P w = .ok a w ∧ (Go.part f.type A f.offset).run P w = .ok u w ∧ (Go.part f.type B f.offset).run P w = .ok v w := by
   split at ht
   ·rename_i hu'
    cases c <;> first | (simp [shp] at hc; done) | skip
    cases e <;> first | (simp [shp] at hd; done) | skip
    cases hru; cases hrv
    simp only [eqC, Option.some.injEq] at h1
    subst h1
    have k1 := kEq_eq (by simpa [shp] using hc.1)
    have k2 := kEq_eq (by simpa [shp] using hd.1)
    subst k1; subst k2
    exact ⟨run_equalIn_int w d _ _ _ _ _ hu', by simp [Go.part, isAgg, run_underlying hu', hu], by simp [Go.part, isAgg, run_underlying hu', hv]⟩
   ·rename_i hu'
    cases c <;> first | (simp [shp] at hc; done) | skip
    cases e <;> first | (simp [shp] at hd; done) | skip
    cases hru; cases hrv
    simp only [eqC, Option.some.injEq] at h1
    subst h1
    exact ⟨run_equalIn_bool' w d _ _ _ hu', by simp [Go.part, isAgg, run_underlying hu', hu], by simp [Go.part, isAgg, run_underlying hu', hv]⟩
   ·rename_i hu'
    cases c <;> first | (simp [shp] at hc; done) | skip
    cases e <;> first | (simp [shp] at hd; done) | skip
    cases hru; cases hrv
    simp only [eqC, Option.some.injEq] at h1
    subst h1
    exact ⟨run_equalIn_string w d _ _ _ hu', by simp [Go.part, isAgg, run_underlying hu', hu], by simp [Go.part, isAgg, run_underlying hu', hv]⟩
   ·simp at ht
  rw [Op.eqFields]
  simp only [if_pos hn', Sem.run_bind, key.2.1, key.2.2, key.1, Result.andThen_ok]
  cases a
  ·simp
  ·simpa using hr
theorem flatB_ok {t : Nat} {z : List PV} (h : flatB P t z = true) : FlatOk P t z := by
 unfold flatB at h
 simp only [Bool.and_eq_true, Bool.not_eq_true'] at h
 obtain ⟨h1, h2, h3⟩ := h
 refine ⟨h1, fun g w A B cs ds r hA hB hcA hcB hc hd he => ?_⟩
 split at h3
 ·rename_i fs hu
  have hf : P.fieldsOf t = fs := by simp [Program.fieldsOf, hu]
  unfold Op.equal
  show (Op.equalIn (9998 + 1 + 1) t (.agg A) (.agg B)).run P w = _
  rw [run_equalIn_struct (P := P) w _ t A B (by rw [hf]; exact hu) h2, hf]
  exact flat_fields 9998 fs.toList 0 z cs ds r h3 hc hd hcA hcB he
 ·simp at h3
def pairB (P : Program) (k : Nat) : Bool := flatB P k [.i .i64 0, .i .i64 0]
theorem pairB_ok {k : Nat} (h : pairB P k = true) : PairOk P k := by
 have hF := flatB_ok h
 unfold pairB flatB at h
 simp only [Bool.and_eq_true, Bool.not_eq_true'] at h
 obtain ⟨_, _, h3⟩ := h
 have eqs : ∀ (x y x' y' : Int) (w : World), (Op.equal k (.agg #[.int .i64 x, .int .i64 y]) (.agg #[.int .i64 x', .int .i64 y'])).run P w = .ok (x == x' && y == y') w := fun x y x' y' w => by
  have rows : ∀ (x y : Int), CellsAt (⟨fun _ => none, fun _ => none, 0, fun _ => 0, fun _ => 0, fun _ => (0, (0, 0)), fun _ => none⟩ : G) #[.int .i64 x, .int .i64 y] 0 [.i .i64 x, .i .i64 y] := fun x y j c hj => by
   match j with
   | 0 => simp only [List.getElem?_cons_zero, Option.some.injEq] at hj; subst hj; exact ⟨_, rfl, .i _ _⟩
   | 1 => simp only [List.getElem?_cons_succ, List.getElem?_cons_zero, Option.some.injEq] at hj; subst hj; exact ⟨_, rfl, .i _ _⟩
   | n + 2 => simp at hj
  exact hF.2 _ w _ _ [.i .i64 x, .i .i64 y] [.i .i64 x', .i .i64 y'] _ rfl rfl (rows x y) (rows x' y') rfl rfl (by simp [eqCs, eqC])
 split at h3
 case h_2 => simp at h3
 rename_i fs hu
 refine ⟨⟨fs, hu⟩, fun b x y w => ?_, eqs⟩
 cases fs with
 | mk l =>
 match l, h3 with
 | [f0, f1], h3 =>
  simp only [flatF, Bool.and_eq_true, beq_iff_eq] at h3
  obtain ⟨⟨⟨_, ho0⟩, ht0⟩, ⟨⟨_, ho1⟩, ht1⟩, _⟩ := h3
  have key : ∀ {f : Field} {v : Value} {z : Int} {o : Nat}, f.offset = o → (match P.underlying f.type, PV.i .i64 0 with
   | some (.int _), .i _ _ => true
   | some .bool, .b _ => true
   | some .string, .s _ => true
   | _, _ => false) = true → (#[Value.int .i64 x, Value.int .i64 y])[o]? = some (.int .i64 z) → (Go.part f.type #[.int .i64 x, .int .i64 y] f.offset).run P w = .ok (.int .i64 z) w ∧ (Instr.checkKey b 9999 f.type (.int .i64 z)).run P w = .ok () w := fun {f v z o} ho ht hz => by
   obtain ⟨kk, hu'⟩ : ∃ kk, P.underlying f.type = some (.int kk) := by
    cases hd : P.underlying f.type with
    | none => simp [hd] at ht
    | some d => cases d <;> first | exact ⟨_, rfl⟩ | simp [hd] at ht
   refine ⟨by simp [Go.part, isAgg, run_underlying hu', ho, hz], ?_⟩
   show (Instr.checkKey b (9998 + 1) f.type _).run P w = _
   unfold Instr.checkKey
   simp only [Sem.run_bind, run_underlying hu', Result.andThen]
   rfl
  have k0 := key (v := .bool true) (z := x) ho0 ht0 rfl
  have k1 := key (v := .bool true) (z := y) ho1 ht1 rfl
  show (Instr.checkKey b (9999 + 1) k _).run P w = _
  unfold Instr.checkKey
  simp only [Sem.run_bind, run_underlying hu, Result.andThen]
  simp [k0.1, k0.2, k1.1, k1.2, Result.andThen]
 | [], h3 => simp [flatF] at h3
 | [_], h3 => simp [flatF] at h3
 | _ :: _ :: _ :: _, h3 => simp [flatF] at h3
def kB' (P : Program) (l : List (Nat × Ent)) (t : Nat) (k : TK) : Bool :=
 match k, P.underlying t with
 | .int k, some (.int k') => kEq k k'
 | .bool, some .bool => true
 | .str, some .string => true
 | .slice el, some (.slice el') => el == el' && ((entOf l el).cz == sz el && (Nat.blt 0 (sz el) && match P.info? el with
   | some i => i.size == sz el && (i.bytes == (entOf l el).by_ && (Nat.blt 0 i.bytes && match i.zero with
    | some z => z.cells.size == sz el
    | none => false))
   | none => false))
 | .ptr el, some (.pointer el') => el == el'
 | .iface, some (.interface _) => true
 | .map el, some (.map k el') => el == el' && ((match P.underlying k with
   | some .string => true
   | _ => false) && match P.info? el with
   | some i => match i.zero with
    | some (.agg _) => false
    | some _ => true
    | none => false
   | none => false)
 | .mapP el, some (.map k el') => el == el' && (pairB P k && match P.info? el with
   | some i => match i.zero with
    | some (.agg _) => false
    | some _ => true
    | none => false
   | none => false)
 | .struct, some (.struct _) => true
 | .other, some (.struct _) => false
 | .other, some (.array _ _) => false
 | .other, some _ => true
 | .unk, _ => true
 | _, _ => false
theorem kB_ok {l : List (Nat × Ent)} {t : Nat} {e : Ent} (h : kB' P l t e.k = true) : kOk P l t e := by
 unfold kOk
 unfold kB' at h
 cases hk : e.k with
 | int k =>
  rw [hk] at h
  cases hu : P.underlying t with
  | none => simp [hu] at h
  | some d =>
   cases d <;> simp_all
   exact (kEq_eq h).symm
 | bool => rw [hk] at h; cases hu : P.underlying t with
  | none => simp [hu] at h
  | some d => cases d <;> simp_all
 | str => rw [hk] at h; cases hu : P.underlying t with
  | none => simp [hu] at h
  | some d => cases d <;> simp_all
 | ptr el => rw [hk] at h; cases hu : P.underlying t with
  | none => simp [hu] at h
  | some d => cases d <;> simp_all
 | iface => rw [hk] at h; cases hu : P.underlying t with
  | none => simp [hu] at h
  | some d => cases d <;> simp_all
 | map el =>
  rw [hk] at h
  cases hu : P.underlying t with
  | none => simp [hu] at h
  | some d =>
   cases d with
   | map k el' =>
    simp only [hu, Bool.and_eq_true, beq_iff_eq] at h
    obtain ⟨rfl, h1, h2⟩ := h
    split at h1
    ·rename_i hs
     cases hi : P.info? el with
     | none => simp [hi] at h2
     | some i =>
      cases hz : i.zero with
      | none => simp [hi, hz] at h2
      | some v => exact ⟨k, v, i, rfl, hs, hi, hz, by cases v <;> first | rfl | simp [hi, hz] at h2⟩
    ·simp at h1
   | _ => simp [hu] at h
 | mapP el =>
  rw [hk] at h
  cases hu : P.underlying t with
  | none => simp [hu] at h
  | some d =>
   cases d with
   | map k el' =>
    simp only [hu, Bool.and_eq_true, beq_iff_eq] at h
    obtain ⟨rfl, h1, h2⟩ := h
    cases hi : P.info? el with
    | none => simp [hi] at h2
    | some i =>
     cases hz : i.zero with
     | none => simp [hi, hz] at h2
     | some v => exact ⟨k, v, i, rfl, pairB_ok h1, hi, hz, by cases v <;> first | rfl | simp [hi, hz] at h2⟩
   | _ => simp [hu] at h
 | struct => rw [hk] at h; cases hu : P.underlying t with
  | none => simp [hu] at h
  | some d => cases d <;> simp_all
 | other => rw [hk] at h; cases hu : P.underlying t with
  | none => simp [hu] at h
  | some d => cases d <;> simp_all
 | unk => trivial
 | slice el =>
  rw [hk] at h
  cases hu : P.underlying t with
  | none => simp [hu] at h
  | some d =>
   cases d with
   | slice el' =>
    simp only [hu, Bool.and_eq_true, beq_iff_eq, Nat.blt_eq] at h
    obtain ⟨rfl, h1, h2, h3⟩ := h
    cases hi : P.info? el with
    | none => simp [hi] at h3
    | some i =>
     simp only [hi, Bool.and_eq_true, beq_iff_eq, Nat.blt_eq] at h3
     obtain ⟨h4, h5, h6, h7⟩ := h3
     cases hz : i.zero with
     | none => simp [hz] at h7
     | some z =>
      simp only [hz, beq_iff_eq] at h7
      exact ⟨rfl, h1, h2, i, z, hi, h4, h5, h6, hz, h7⟩
   | _ => simp [hu] at h
def offB (P : Program) (t : Nat) (fs : Array Field) : Nat → List (Nat × Nat) → Bool
 | _, [] => true
 | f, (o, n) :: r => (match fs[f]? with
  | some fd => fd.offset == o && (Nat.blt 0 n && match P.info? fd.type with
   | some i => i.size == n
   | none => false)
  | none => false) && offB P t fs (f + 1) r
theorem offB_ok {t : Nat} {fs : Array Field} : ∀ (l : List (Nat × Nat)) (k : Nat), offB P t fs k l = true → ∀ (f o n : Nat), l[f]? = some (o, n) → ∃ (fd : Field) (i : TypeInfo), fs[k + f]? = some fd ∧ fd.offset = o ∧ P.info? fd.type = some i ∧ i.size = n ∧ 0 < n := by
 intro l
 induction l with
 | nil => intro k _ f o n hf; simp at hf
 | cons x l ih =>
  obtain ⟨o0, n0⟩ := x
  intro k h f o n hf
  simp only [offB, Bool.and_eq_true] at h
  cases f with
  | zero =>
   simp only [List.getElem?_cons_zero, Option.some.injEq, Prod.mk.injEq] at hf
   obtain ⟨rfl, rfl⟩ := hf
   cases hfd : fs[k]? with
   | none => simp [hfd] at h
   | some fd =>
    simp only [hfd, Bool.and_eq_true, beq_iff_eq, Nat.blt_eq] at h
    obtain ⟨⟨h1, h2, h3⟩, _⟩ := h
    cases hi : P.info? fd.type with
    | none => simp [hi] at h3
    | some i => simp only [hi, beq_iff_eq] at h3; exact ⟨fd, i, rfl, h1, hi, h3, h2⟩
  | succ f =>
   simp only [List.getElem?_cons_succ] at hf
   obtain ⟨fd, i, h1, h2⟩ := ih (k + 1) h.2 f o n hf
   exact ⟨fd, i, by rw [← h1]; congr 1; omega, h2⟩
def bldB (P : Program) (fs : List Field) (l : List (Nat × Nat)) : Bool :=
 match fs, l with
 | [], [] => true
 | fd :: fs, (o, n) :: l => (fd.offset == o && match P.info? fd.type with
  | some i => i.size == n
  | none => false) && bldB P fs l
 | _, _ => false
theorem bldB_ok : ∀ (fs : List Field) (l : List (Nat × Nat)), bldB P fs l = true → fs.mapM (fun f => (P.info? f.type).map fun i => (f.offset, i.size)) = some l := by
 intro fs
 induction fs with
 | nil => intro l h; cases l <;> simp [bldB] at h ⊢
 | cons fd fs ih =>
  intro l h
  cases l with
  | nil => simp [bldB] at h
  | cons x l =>
   obtain ⟨o, n⟩ := x
   simp only [bldB, Bool.and_eq_true, beq_iff_eq] at h
   obtain ⟨⟨h1, h2⟩, h3⟩ := h
   cases hi : P.info? fd.type with
   | none => simp [hi] at h2
   | some i =>
    simp only [hi, beq_iff_eq] at h2
    simp [List.mapM_cons, hi, ih l h3, h1, h2]
def entB (P : Program) (l : List (Nat × Ent)) (t : Nat) (e : Ent) : Bool :=
 kB' P l t e.k && ((!e.flat || match e.zr with
  | some z => flatB P t z
  | none => true) && ((Nat.beq e.cz 0 || match P.info? t with
  | some i => i.size == e.cz
  | none => false) && ((match e.zr with
  | none => true
  | some z => Nat.blt 0 z.length && (e.cz == z.length && match P.info? t with
   | some i => i.size == z.length && match i.zero with
    | some v => zerosB z v.cells.toList
    | none => false
   | none => false)) && (match e.off with
  | [] => match e.k, e.zr with
   | .struct, some _ => false
   | _, _ => true
  | off => match P.underlying t with
   | some (.struct fs) => offB P t fs 0 off && bldB P fs.toList off
   | _ => false) && (match e.ft with
  | [] => true
  | ft => match P.underlying t with
   | some (.struct fs) => fs.toList.map (·.type) == ft
   | _ => false))))
theorem entB_ok {l : List (Nat × Ent)} {t : Nat} {e : Ent} (h : entB P l t e = true) : EntOk P l t e := by
 unfold entB at h
 simp only [Bool.and_eq_true, Bool.or_eq_true, Bool.not_eq_true'] at h
 obtain ⟨hk, hflat, hcz, ⟨hzr, hoff⟩, hft⟩ := h
 have hzr' : ∀ z, e.zr = some z → ∃ i v, P.info? t = some i ∧ i.zero = some v ∧ i.size = z.length ∧ v.cells.size = z.length ∧ z.all PV.plain = true ∧ (∀ g : G, CellsAt g v.cells 0 z) ∧ e.cz = z.length ∧ 0 < z.length := by
  intro z hz
  rw [hz] at hzr
  simp only [Bool.and_eq_true, Nat.blt_eq, beq_iff_eq] at hzr
  obtain ⟨h1, h2, h3⟩ := hzr
  cases hi : P.info? t with
  | none => simp [hi] at h3
  | some i =>
   simp only [hi, Bool.and_eq_true, beq_iff_eq] at h3
   obtain ⟨h4, h5⟩ := h3
   cases hv : i.zero with
   | none => simp [hv] at h5
   | some v =>
    simp only [hv] at h5
    obtain ⟨h6, h7, h8⟩ := zerosB_ok h5
    refine ⟨i, v, rfl, hv, h4, by simpa using h6.symm, h7, fun g j c hj => ?_, h2, h1⟩
    obtain ⟨u, h9, h10⟩ := h8 g j c hj
    exact ⟨u, by simpa using h9, h10⟩
 refine ⟨kB_ok hk, fun hc => ?_, hzr', fun f o n hf => ?_, fun f U hf => ?_, fun z hz hs => ?_, fun z hf hz => flatB_ok (by simpa [hf, hz] using hflat)⟩
 ·rcases hcz with h1 | h1
  ·have := Nat.eq_of_beq_eq_true h1; omega
  ·cases hi : P.info? t with
   | none => simp [hi] at h1
   | some i => simp only [hi, beq_iff_eq] at h1; exact ⟨i, rfl, h1⟩
 ·cases ho : e.off with
  | nil => simp [ho] at hf
  | cons x off =>
   rw [ho] at hoff hf
   simp only at hoff
   cases hu : P.underlying t with
   | none => simp [hu] at hoff
   | some d =>
    cases d with
    | struct fs =>
     simp only [hu, Bool.and_eq_true] at hoff
     obtain ⟨fd, i, h1, h2, h3, h4, h5⟩ := offB_ok _ 0 hoff.1 f o n hf
     exact ⟨fs, fd, i, rfl, by simpa using h1, h2, h3, h4, h5⟩
    | _ => simp [hu] at hoff
 ·cases ho : e.ft with
  | nil => simp [ho] at hf
  | cons x off =>
   rw [ho] at hft hf
   simp only at hft
   cases hu : P.underlying t with
   | none => simp [hu] at hft
   | some d =>
    cases d with
    | struct fs =>
     simp only [hu, beq_iff_eq] at hft
     have h1 : (fs.toList.map (·.type))[f]? = some U := by rw [hft]; exact hf
     simp only [List.getElem?_map, Option.map_eq_some_iff, Array.getElem?_toList] at h1
     obtain ⟨fd, h2, h3⟩ := h1
     exact ⟨fs, fd, rfl, h2, h3⟩
    | _ => simp [hu] at hft
 ·obtain ⟨i, v, h1, _⟩ := hzr' z hz
  cases ho : e.off with
  | nil => simp [ho, hs, hz] at hoff
  | cons x off =>
   rw [ho] at hoff
   simp only at hoff
   cases hu : P.underlying t with
   | none => simp [hu] at hoff
   | some d =>
    cases d with
    | struct fs =>
     simp only [hu, Bool.and_eq_true] at hoff
     exact ⟨i, fs, x :: off, h1, rfl, bldB_ok _ _ hoff.2, fun f o n hf => by simpa using hf⟩
    | _ => simp [hu] at hoff
def tabB (P : Program) (l : List (Nat × Ent)) : Bool := l.all fun x => entB P l x.1 x.2
theorem tabB_ok {l : List (Nat × Ent)} (hE : EncOk) (h : tabB P l = true) : TabOk P (tabOf l) ∧ ∀ t z, (tabOf l).flat t = some z → FlatOk P t z := by
 refine tabOk_of hE (lk_all fun x hx => entB_ok ?_)
 unfold tabB at h
 rw [List.all_eq_true] at h
 exact h x hx
theorem ws_of {Y : Sys} (h : (Y.sg.all fun x => !(x.2.w && x.2.sub)) = true) : ∀ f s, lk Y.sg f = some s → s.w = true → s.sub = false := by
 intro f s hs hw
 have := lk_all (Q := fun _ (s : Sig) => (s.w && s.sub) = false) (l := Y.sg) (fun x hx => by
  rw [List.all_eq_true] at h
  have := h x hx
  cases hh : (x.2.w && x.2.sub) with
  | false => rfl
  | true => rw [hh] at this; simp at this) f s hs
 rw [hw] at this
 exact this
end
end Go.KM
