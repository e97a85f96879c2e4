/- copy: parts of lists that are written. Conditions: none. -/
import Derived.Test.YtdhkmgloghlnnaaGreatDoorKmM
import Derived.MapKept
namespace Go.KM
open Go
open Fam (Dn dflt)
open Enc (cells sz mkE glob gany u8)
set_option autoImplicit false
set_option linter.unusedVariables false
set_option linter.unusedSimpArgs false
set_option linter.unusedSectionVars false
section
variable [Enc] {d nt : Nat} {e : Option Nat} {S : St} {g g' : G} {a : Act} {w w' : World} {P : Program}
theorem sliceD_ran {F : Fx} (hT : TabOk P F.T) {t m ty : Nat} {x : Operand} {lo hi : Option Operand} {S' : St} (ht : t < nt) (h : Rel d nt e S g a w) (ho : opSliceD F t ty x lo hi S = some (true, S')) {o : Oper} (hop : o.op = .slice ty x lo hi none) :
    RanQ d nt e m S' g a w t ((execOp a.eval o).run P w) := by
  unfold opSliceD at ho
  split at ho
  · rename_i U xs s hx hmd
    obtain ⟨u, rfl, hu⟩ := opr_tmp hx
    split at ho
    · rename_i el l r hK hl hh
      cases hU : (Nat.beq U el && !s.isVar t) with
      | false => simp [hU] at ho
      | true =>
        simp only [hU, cond_true, Option.some.injEq, Prod.mk.injEq] at ho
        simp only [Bool.and_eq_true, Bool.not_eq_true'] at hU
        have := Nat.eq_of_beq_eq_true hU.1
        subst this
        obtain ⟨hb, rfl⟩ := ho
        have hsv := hU.2
        obtain ⟨_, h4, h4'⟩ := h.rt u _ hu
        obtain ⟨hs, hd⟩ := h4' s rfl
        have hrep := src_key h hs hd
        have hb' := hb
        simp only [inS, Bool.and_eq_true, decide_eq_true_eq] at hb'
        obtain ⟨vs, q1, _, _⟩ := hrep
        have hex : ∀ v, (Instr.sliceAt ty (a.eval (.tmp u)) (lo.map a.eval) (hi.map a.eval) none).run P w = .ok v w → (execOp a.eval o).run P w = .ok (.value v) w := by
          intro v hv; simp [execOp, hop, hv]
        have hsrc : ∀ s', (RV.sl s U l.toNat r.toNat).src = some s' → s'.isVar t = false := fun s' hs' => by simp only [RV.src, Option.some.injEq] at hs'; subst hs'; exact hsv
        rcases q1.2 with ⟨h5, h6⟩ | ⟨b, cap, cur, h5, _, _, h6, _⟩
        · have h10 : a.eval (.tmp u) = .slice none 0 0 := h5
          have hb2 : inS l r 0 = true := by rw [h6] at hb; exact hb
          have hh2 : hiOf S 0 hi = some r := by rw [h6] at hh; exact hh
          rw [h6] at hb'
          have h11 := slice_run (P := P) (w := w) hT h hK (ao := none) (cap := 0) hl hh2 (Nat.le_refl _) hb2
          have e0 : r.toNat - l.toNat = 0 := by omega
          rw [e0] at h11
          exact ran_refQ h ht (hex _ (by rw [h10]; exact h11)) ⟨xs, hs, by omega, by omega, .inl ⟨by omega, _, _, rfl⟩⟩ hsrc
        · have h10 : a.eval (.tmp u) = .slice (some ⟨b, 0, none⟩) xs.length cap := h5
          have h11 := slice_run (P := P) (w := w) hT h hK (ao := some ⟨b, 0, none⟩) (cap := cap) hl hh h6 hb
          obtain ⟨off', h12, h13⟩ := sliced_row (b := b) (off := 0) (cap := cap) (n := xs.length) (l := l.toNat) (r := r.toNat) (by omega) (by omega) h6 (sz U)
          refine ran_refQ h ht (hex _ (by rw [h10]; exact h11)) ⟨xs, hs, by omega, by omega, ?_⟩ hsrc
          rw [h12]
          by_cases hlr : l.toNat < r.toNat
          · rw [h13 hlr, Nat.zero_add]
            exact .inr ⟨hlr, b, xs.length, cap, _, hd.trans (by rw [h5]), rfl⟩
          · have e0 : r.toNat - l.toNat = 0 := by omega
            rw [e0]
            exact .inl ⟨by omega, _, _, rfl⟩
    · simp at ho
  · exact slice_ran hT ht h ho hop
theorem copy_ran {F : Fx} (hT : TabOk P F.T) {t m T : Nat} {x y : Operand} {S' : St} {o : Oper} {args : Array Operand} {tys : Array TypeId} (ht : t < nt) (h : Rel d nt e S g a w) (ho : opCopy F t T x y S = some S') (hm : m = S.mm.length)
    (hop : o.op = .call { callee := .builtin .copy, args := args, argTypes := tys }) (ha : args.toList = [x, y]) (hty : tys.toList = [T, T]) : Ran d nt e m S' g a w t ((execOp a.eval o).run P w) := by simp [opCopy] at ho
end
end Go.KM
namespace Go.KM
open Go
open Fam (Dn dflt)
open Enc (cells sz mkE glob gany u8)
set_option autoImplicit false
set_option linter.unusedVariables false
set_option linter.unusedSimpArgs false
set_option linter.unusedSectionVars false
section
variable [Enc] {d nt : Nat} {e : Option Nat} {S : St} {g g' : G} {a : Act} {w w' : World} {P : Program}
theorem makeMap_ran {F : Fx} (hT : TabOk P F.T) {t m T : Nat} {S' : St} (ht : t < nt) (h : Rel d nt e S g a w) (ho : opMakeMap F t T S = some S') {o : Oper} (hop : o.op = .makeMap T none) :
    Ran d nt e m S' g a w t ((execOp a.eval o).run P w) := by simp [opMakeMap] at ho
theorem lookup_ran {F : Fx} (hT : TabOk P F.T) {t m T : Nat} {x k : Operand} {ok : Bool} {S' : St} (ht : t < nt) (h : Rel d nt e S g a w) (ho : opLookup F t T x k ok S = some S') {o : Oper} (hop : o.op = .lookup T x k ok) :
    Ran d nt e m S' g a w t ((execOp a.eval o).run P w) := by simp [opLookup] at ho
theorem mapUpdate_ran {F : Fx} (hT : TabOk P F.T) {T : Nat} {x k v : Operand} {S' : St} (h : Rel d nt e S g a w) (ho : opMapUpdate F T x k v S = some S') {o : Oper} (hop : o.op = .mapUpdate T x k v) :
    RanS d nt e S.mm.length S' g a w ((execOp a.eval o).run P w) := by simp [opMapUpdate] at ho
end
end Go.KM
