/- Drawn regions: operations that may come in any order come to the same. Conditions: none. -/
import Derived.Test.YtdhkmgloghlnnaaGreatDoorKmP
import Derived.Orders
namespace Go.KM
open Go
open Fam (Dn dflt)
open Enc (cells sz mkE glob gany u8)
set_option autoImplicit false
set_option linter.unusedVariables false
set_option linter.unusedSimpArgs false
set_option linter.unusedSectionVars false
section
variable [Enc] {d nt : Nat} {e : Option Nat} {S : St} {g g' g0 : G} {a : Act} {w w' w0 : World} {P : Program} {m0 : Nat} {F : Fx} {C : CTab}
theorem fillR_congr {e n : Nat} {ρ ρ' : Operand → Option PV} : ∀ (ps : List (Nat × Operand)) (xs : List (Dn e)), (∀ x ∈ ps.map Prod.snd, ρ x = ρ' x) → fillR F e n ρ ps xs = fillR F e n ρ' ps xs := by
  intro ps
  induction ps with
  | nil => intro xs _; rfl
  | cons q r ih =>
    obtain ⟨q, x⟩ := q
    intro xs h
    have h1 := h x (by simp)
    have h2 : ∀ xs, fillR F e n ρ r xs = fillR F e n ρ' r xs := fun xs => ih xs fun y hy => h y (by simp only [List.map_cons, List.mem_cons]; exact .inr hy)
    simp only [fillR, h1, h2]
theorem dupsR_congr {ρ ρ' : Operand → Option PV} : ∀ (ps : List (Nat × Operand)), (∀ x ∈ ps.map Prod.snd, ρ x = ρ' x) → dupsR ρ ps = dupsR ρ' ps := by
  intro ps
  induction ps with
  | nil => intro _; rfl
  | cons q r ih =>
    obtain ⟨q, x⟩ := q
    intro h
    have h1 := h x (by simp)
    have h2 := ih fun y hy => h y (by simp only [List.map_cons, List.mem_cons]; exact .inr hy)
    simp only [dupsR, h1, h2]
theorem fillB_congr {t T : Nat} {ρ ρ' : Operand → Option PV} : ∀ (ps : List (Nat × Operand)) (cs : List PV), (∀ x ∈ ps.map Prod.snd, ρ x = ρ' x) → fillB F t T ρ ps cs = fillB F t T ρ' ps cs := by
  intro ps
  induction ps with
  | nil => intro xs _; rfl
  | cons q r ih =>
    obtain ⟨q, x⟩ := q
    intro cs h
    have h1 := h x (by simp)
    have h2 : ∀ cs, fillB F t T ρ r cs = fillB F t T ρ' r cs := fun xs => ih xs fun y hy => h y (by simp only [List.map_cons, List.mem_cons]; exact .inr hy)
    simp only [fillB, h1, h2]
theorem locP_congr {t : Nat} {op : Op} {ρ ρ' : Operand → Option PV} {cont : Base → Option (List PV)} (h : ∀ x ∈ opsL op, ρ x = ρ' x) : locP F t op ρ cont = locP F t op ρ' cont := by
  unfold locP
  split
  · rw [h _ (by simp [opsL, calleeO])]
  · rw [h _ (by simp [opsL, calleeO])]
  · rename_i c x y
    rw [h c (by simp [opsL, calleeO]), h x (by simp [opsL, calleeO]), h y (by simp [opsL, calleeO])]
  · rw [h _ (by simp [opsL, calleeO])]
  · rw [h _ (by simp [opsL, calleeO])]
  · rename_i T x i
    have h1 := h x (by simp [opsL, calleeO])
    have h2 := h i (by simp [opsL, calleeO])
    simp only [iOf, h1, h2]
  · rename_i T x i
    have h1 := h x (by simp [opsL, calleeO])
    have h2 := h i (by simp [opsL, calleeO])
    simp only [iOf, h1, h2]
  · rename_i o T x y z
    rw [h x (by simp [opsL, calleeO]), h y (by simp [opsL, calleeO])]
  · rw [h _ (by simp [opsL, calleeO])]
  · rename_i src dst x
    have h1 := h x (by simp [opsL, calleeO])
    simp only [h1, seenR]
  · rw [h _ (by simp [opsL, calleeO])]
  · rename_i T ps
    have h1 := fun cs => fillB_congr (F := F) (t := t) (T := T) ps.toList cs h
    simp only [h1]
  · rename_i T n ps
    have h1 := dupsR_congr ps.toList h
    have h2 := fun (e : Nat) (xs : List (Dn e)) => fillR_congr (F := F) (n := n) ps.toList xs h
    simp only [h1, h2]
  · rw [h _ (by simp [opsL, calleeO])]
  · rename_i T x lo hi
    have h1 := h x (by simp [opsL, calleeO])
    have h2 : loR ρ lo = loR ρ' lo := by
      cases lo with
      | none => rfl
      | some o => simp only [loR, iOf, h o (by simp [opsL, calleeO])]
    have h3 : ∀ n, hiR ρ n hi = hiR ρ' n hi := fun n => by
      cases hi with
      | none => rfl
      | some o => simp only [hiR, iOf, h o (by simp [opsL, calleeO])]
    simp only [h1, h2, h3]
  · rename_i args tys
    split
    · rename_i x T hx hT
      rw [h x (by
        show x ∈ args.toList
        rw [hx]; simp)]
    · rfl
  · rfl
theorem opr_nil (hr : S.rt = []) (x : Operand) : S.opr x = none := by cases x <;> simp [St.opr, hr, lk]
theorem int?_iOf (x : Operand) : S.int? x = iOf S.opv x := rfl
theorem upd_none {t : Nat} {p : PV} (hr : S.rt = []) : S.setT t p = S.upd t none p := by simp [St.setT, St.upd, hr, dropR]
theorem upd_some {t u : Nat} {p : PV} (hr : S.rt = []) : (S.setT u .gone).setT t p = S.upd t (some u) p := by simp [St.setT, St.upd, hr, dropR]
theorem valCs_load {t T off : Nat} {cs : List PV} {p : PV} (hr : S.rt = []) (h : valCs F T cs off = some p) : opLoadCs F t T cs off S = some (S.upd t none p) := by
  unfold valCs at h
  unfold opLoadCs
  cases hg : (Nat.beq (part cs off (F.T.cz T)).length (F.T.cz T) && (part cs off (F.T.cz T)).all PV.plain && !isUnk (F.T.K T) && Nat.blt 0 (F.T.cz T)) with
  | false => simp [hg] at h
  | true =>
    simp only [hg, cond_true] at h ⊢
    cases ha : isAggK (F.T.K T) with
    | true =>
      simp only [ha, cond_true, Option.some.injEq] at h ⊢
      rw [← h, upd_none hr]
    | false =>
      simp only [ha, cond_false] at h ⊢
      split at h
      · rename_i c hc
        simp only [Option.some.injEq] at h
        subst h
        simp only [upd_none hr]
      · simp at h
theorem dup_step {p q : PV} {u : Option Nat} {rest : Option (PV × Option Nat)} (h : (bif p.dup then some (p, none) else rest) = some (q, u)) : (p.dup = true ∧ q = p ∧ u = none) ∨ (p.dup = false ∧ rest = some (q, u)) := by
  cases hd : p.dup with
  | true => simp only [hd, cond_true, Option.some.injEq, Prod.mk.injEq] at h; exact .inl ⟨rfl, h.1.symm, h.2.symm⟩
  | false => simp only [hd, cond_false] at h; exact .inr ⟨rfl, h⟩
theorem seenR_eq (hr : S.rt = []) (T : Nat) (x : Operand) : S.seen T x = seenR S.opv T x := by
  unfold St.seen seenR
  simp only [opr_nil hr]
theorem fillE_R {e n : Nat} : ∀ (ps : List (Nat × Operand)) (xs : List (Dn e)), fillE F e n S ps xs = fillR F e n S.opv ps xs := by
  intro ps
  induction ps with
  | nil => intro xs; rfl
  | cons q r ih => obtain ⟨q, x⟩ := q; intro xs; simp only [fillE, fillR, ih]
theorem dups_frz : ∀ (ps : List (Nat × Operand)), dupsR S.opv ps = true → frzAll S ps = S := by
  intro ps
  induction ps with
  | nil => intro _; rfl
  | cons q r ih =>
    obtain ⟨q, x⟩ := q
    intro h
    simp only [dupsR, Bool.and_eq_true] at h
    have h1 : frzO S x = S := by
      cases x with
      | tmp t =>
        have h2 := h.1
        simp only [St.opv] at h2
        simp only [frzO]
        cases hl : lk S.tm t with
        | none => simp [hl] at h2
        | some p => simp only [hl, Bool.and_eq_true] at h2; simp only [h2.1, Bool.true_or, cond_true]
      | _ => rfl
    simp only [frzAll, h1]
    exact ih h.2
theorem dups_frzL : ∀ (ps : List (Nat × Operand)), dupsR S.opv ps = true → frzLs F S ps = S := by
  intro ps
  induction ps with
  | nil => intro _; rfl
  | cons q r ih =>
    obtain ⟨q, x⟩ := q
    intro h
    simp only [dupsR, Bool.and_eq_true] at h
    have h1 : frzL F S x = S := by
      cases x with
      | tmp t =>
        have h2 := h.1
        simp only [St.opv] at h2
        simp only [frzL]
        cases hl : lk S.tm t with
        | none => rfl
        | some p =>
          simp only [hl, Bool.and_eq_true, Bool.not_eq_true'] at h2
          cases p with
          | ad b off => cases b with
            | loc u => simp [PV.isLoc] at h2
            | obj i => rfl
          | _ => rfl
      | _ => rfl
    simp only [frzLs, h1]
    exact ih h.2
theorem fillB_P {t T : Nat} : ∀ (ps : List (Nat × Operand)) (cs cs' : List PV), fillB F t T S.opv ps cs = some cs' → fillP F t T ps cs S = some (cs', S) := by
  intro ps
  induction ps with
  | nil => intro cs cs' h; simp only [fillB, Option.some.injEq] at h; subst h; rfl
  | cons q r ih =>
    obtain ⟨q, x⟩ := q
    intro cs cs' h
    simp only [fillB] at h
    split at h
    · rename_i o n p h1 h2
      cases hd : p.dup with
      | false => simp [hd] at h
      | true =>
        simp only [hd, Bool.true_and] at h
        cases hg : (Nat.beq p.cs.length n && p.cs.all PV.okc && Nat.ble (o + n) cs.length && notT t x && (part cs o n).all PV.plain) with
        | false => rw [hg] at h; simp at h
        | true =>
          rw [hg] at h
          simp only [cond_true] at h
          simp only [fillP, h1, takeO, h2, hd, cond_true, hg]
          exact ih _ _ h
    · simp at h
theorem locP_stp1 {t : Nat} {op : Op} {p : PV} {u : Option Nat} (hr : S.rt = []) (h : locP F t op S.opv S.cont = some (p, u)) : stp1 F op t S = some (true, S.upd t u p) := by
  have yes_ : ∀ {X : Option St} {Y : St}, X = some Y → yes t X = some (true, Y) := fun hX => by rw [hX]; rfl
  unfold locP at h
  split at h
  · -- move
    rename_i x
    show (bif isFrz (F.md t) then yes t (opFrz t x S) else yes t (opMove F t x S)) = _
    cases hz : isFrz (F.md t) with
    | true =>
      simp only [cond_true]
      refine yes_ ?_
      unfold opFrz
      split at h
      · rename_i q hq
        try simp only [hq]
        rcases dup_step h with ⟨h1, rfl, rfl⟩ | ⟨h1, h2⟩
        · simp only [h1, cond_true, upd_none hr]
        · exfalso
          cases hm : F.md t <;> simp [hm, isFrz] at hz
          rw [hm] at h2
          simp at h2
      · simp at h
    | false =>
    simp only [cond_false]
    refine yes_ ?_
    unfold opMove
    split at h
    · rename_i q hq
      try simp only [hq]
      rcases dup_step h with ⟨h1, rfl, rfl⟩ | ⟨h1, h2⟩
      · simp only [h1, cond_true, upd_none hr]
      · simp only [h1, cond_false]
        split at h2
        · rename_i v hmd
          simp only [hmd]
          cases hg : (q.okM && !Nat.beq v t) with
          | false => simp [hg] at h2
          | true =>
            simp only [hg, cond_true, Option.some.injEq, Prod.mk.injEq] at h2 ⊢
            obtain ⟨rfl, rfl⟩ := h2
            rw [upd_some hr]
        · simp at h2
    · simp at h
  · -- assign
    rename_i x
    show (bif isFrz (F.md t) then yes t (opFrz t x S) else yes t (opAssign t x S)) = _
    cases hz : isFrz (F.md t) with
    | true =>
      simp only [cond_true]
      refine yes_ ?_
      unfold opFrz
      split at h
      · rename_i q hq
        try simp only [hq]
        rcases dup_step h with ⟨h1, rfl, rfl⟩ | ⟨h1, h2⟩
        · simp only [h1, cond_true, upd_none hr]
        · simp [hz] at h2
      · simp at h
    | false =>
    simp only [cond_false]
    refine yes_ ?_
    unfold opAssign
    split at h
    · rename_i q hq
      try simp only [hq]
      rcases dup_step h with ⟨h1, rfl, rfl⟩ | ⟨h1, h2⟩
      · simp only [h1, cond_true, upd_none hr]
      · simp only [hz, cond_false] at h2
        simp only [h1, cond_false]
        split at h2
        · rename_i v
          cases hg : (q.okM && !Nat.beq v t) with
          | false => simp [hg] at h2
          | true =>
            simp only [hg, cond_true, Option.some.injEq, Prod.mk.injEq] at h2 ⊢
            obtain ⟨rfl, rfl⟩ := h2
            rw [upd_some hr]
        · simp at h2
    · simp at h
  · -- pick
    rename_i c x y
    refine yes_ ?_
    unfold opPick
    split at h
    · rename_i hc
      try simp only [hc]
      split at h
      · rename_i q hq
        try simp only [hq]
        rcases dup_step h with ⟨h1, rfl, rfl⟩ | ⟨h1, h2⟩
        · simp only [h1, cond_true, upd_none hr]
        · simp at h2
      · simp at h
    · rename_i hc
      try simp only [hc]
      split at h
      · rename_i q hq
        try simp only [hq]
        rcases dup_step h with ⟨h1, rfl, rfl⟩ | ⟨h1, h2⟩
        · simp only [h1, cond_true, upd_none hr]
        · simp at h2
      · simp at h
    · simp at h
  · -- load
    rename_i T x
    refine yes_ ?_
    unfold opLoad
    simp only [opr_nil hr]
    split at h
    · rename_i U y off hx
      try simp only [hx]
      unfold just at h
      split at h
      · rename_i q hq
        simp only [Option.some.injEq, Prod.mk.injEq] at h
        obtain ⟨rfl, rfl⟩ := h
        exact valCs_load hr hq
      · simp at h
    · rename_i b off hx
      try simp only [hx]
      split at h
      · rename_i cs hcs
        try simp only [hcs]
        cases hpl : (part cs off (F.T.cz T)).all PV.plain with
        | false => simp [hpl] at h
        | true =>
          simp only [hpl, cond_true] at h
          unfold just at h
          split at h
          · rename_i q hq
            simp only [Option.some.injEq, Prod.mk.injEq] at h
            obtain ⟨rfl, rfl⟩ := h
            split
            · rename_i U xs _ hp
              rw [hp] at hpl
              simp [PV.plain] at hpl
            · rename_i U xs _ hp
              rw [hp] at hpl
              simp [PV.plain] at hpl
            · simp only [hpl, cond_true]
              exact valCs_load hr hq
          · simp at h
      · simp at h
    · simp at h
  · -- fieldAddr
    rename_i T x f
    refine yes_ ?_
    unfold opFieldAddr
    split at h
    · rename_i o n hof
      simp only [hof, opr_nil hr]
      split at h
      · rename_i b off hx
        simp only [Option.some.injEq, Prod.mk.injEq] at h
        obtain ⟨rfl, rfl⟩ := h
        simp only [hx, upd_none hr]
      · rename_i U y off hx
        simp only [Option.some.injEq, Prod.mk.injEq] at h
        obtain ⟨rfl, rfl⟩ := h
        simp only [hx, upd_none hr]
      · simp at h
    · simp at h
  · -- indexAddr
    rename_i T x i
    show opIndexAddr F t T x i S = _
    unfold opIndexAddr
    split at h
    · rename_i el n U xs hK hi hx
      cases hg : (Nat.beq U el && inB n xs.length) with
      | false => simp [hg] at h
      | true =>
        simp only [hg, cond_true, Option.some.injEq, Prod.mk.injEq] at h
        obtain ⟨rfl, rfl⟩ := h
        simp only [Bool.and_eq_true] at hg
        simp only [hK, int?_iOf, hi, opr_nil hr, hx, hg.1, hg.2, cond_true, upd_none hr]
    · simp at h
  · -- index
    rename_i T x i
    show opIndex F t T x i S = _
    unfold opIndex
    split at h
    · rename_i b n hK hx hi
      cases hg : inB n b.size with
      | false => simp [hg] at h
      | true =>
        simp only [hg, cond_true, Option.some.injEq, Prod.mk.injEq] at h
        obtain ⟨rfl, rfl⟩ := h
        simp only [hK, int?_iOf, hi, hx, hg, upd_none hr]
    · simp at h
  · -- binOp
    rename_i o T x y z
    split at h
    · rename_i q r hx hy
      unfold okd at h
      split at h
      · rename_i c v hb
        cases c with
        | false => simp at h
        | true =>
          simp only [cond_true, Option.some.injEq, Prod.mk.injEq] at h
          obtain ⟨rfl, rfl⟩ := h
          simp only [stp1, hx, hy, hb, Option.map_some, upd_none hr]
          split
          · rename_i b hc hq
            simp only [Option.some.injEq] at hq
            subst hq
            have hyc : r = .ifc true := by
              unfold nilC at hc
              split at hc
              · simp only [St.opv, pvOf, Option.some.injEq] at hy; exact hy.symm
              · simp at hc
            subst hyc
            simp [binP] at hb
          · rfl
      · simp at h
    · simp at h
  · -- unOp
    rename_i o T x
    split at h
    · rename_i q hx
      unfold just at h
      split at h
      · rename_i v hb
        simp only [Option.some.injEq, Prod.mk.injEq] at h
        obtain ⟨rfl, rfl⟩ := h
        simp only [stp1, hx, hb, Option.map_some, upd_none hr]
      · simp at h
    · simp at h
  · -- convert
    rename_i src dst x
    split at h
    · rename_i k k' k2 n h1 h2 hx
      simp only [Option.some.injEq, Prod.mk.injEq] at h
      obtain ⟨rfl, rfl⟩ := h
      simp only [stp1, h1]
      refine yes_ ?_
      unfold opConvert
      simp only [h1, h2, hx, upd_none hr]
    · rename_i b h1 h2 hx
      simp only [Option.some.injEq, Prod.mk.injEq] at h
      obtain ⟨rfl, rfl⟩ := h
      simp only [stp1, h1]
      refine yes_ ?_
      unfold opConvert
      simp only [h1, h2, hx, upd_none hr]
    · rename_i el h1 h2
      split at h
      · rename_i f ys h3 h4 h5
        simp only [Option.some.injEq, Prod.mk.injEq] at h
        obtain ⟨rfl, rfl⟩ := h
        simp only [stp1, h1]
        refine yes_ ?_
        unfold opBytes
        simp only [h1, h2, h3, h4, seenR_eq hr, h5, upd_none hr]
      · simp at h
    · simp at h
  · -- extract
    rename_i x i
    refine yes_ ?_
    unfold opExtract
    split at h
    · rename_i vs u hx _
      try simp only [hx]
      split at h
      · rename_i p hp
        try simp only [hp]
        rcases dup_step h with ⟨h1, rfl, rfl⟩ | ⟨h1, h2⟩
        · simp only [h1, cond_true, upd_none hr]
        · simp at h2
      · simp at h
    · simp at h
  · -- build
    rename_i T ps
    refine yes_ ?_
    unfold opBuild
    split at h
    · rename_i z h1 h2
      split at h
      · rename_i cs hf
        simp only [Option.some.injEq, Prod.mk.injEq] at h
        obtain ⟨rfl, rfl⟩ := h
        simp only [h1, h2, fillB_P _ _ _ hf, upd_none hr]
      · simp at h
    · simp at h
  · -- buildSlice
    rename_i T n ps
    refine yes_ ?_
    unfold opBuildSlice
    split at h
    · rename_i el hK
      cases hd : dupsR S.opv ps.toList with
      | false => simp [hd] at h
      | true =>
        simp only [hd, cond_true] at h
        split at h
        · rename_i z hz
          split at h
          · rename_i y hy
            split at h
            · rename_i xs h1 h2
              simp only [Option.some.injEq, Prod.mk.injEq] at h
              obtain ⟨rfl, rfl⟩ := h
              simp only [hK, dups_frzL _ hd, dups_frz _ hd, hz, hy, h1, fillE_R, h2]
              have hn : S.noR = S := by cases S; simp only at hr; subst hr; rfl
              cases isFrz (F.md t) <;> simp only [cond_true, cond_false, upd_none hr, hn]
            · simp at h
          · simp at h
        · simp at h
    · simp at h
  · -- nilCheck
    rename_i x
    simp only [stp1, opr_nil hr]
    split at h
    · rename_i b off hx
      simp only [Option.some.injEq, Prod.mk.injEq] at h
      obtain ⟨rfl, rfl⟩ := h
      simp only [hx, upd_none hr]
    · rename_i U y off hx
      simp only [Option.some.injEq, Prod.mk.injEq] at h
      obtain ⟨rfl, rfl⟩ := h
      simp only [hx, upd_none hr]
    · rename_i U y hx
      cases hy : y.isSome with
      | false => simp [hy] at h
      | true =>
        simp only [hy, cond_true, Option.some.injEq, Prod.mk.injEq] at h
        obtain ⟨rfl, rfl⟩ := h
        simp only [hx, hy, upd_none hr]
    · simp at h
  · -- slice of a text
    rename_i T x lo hi
    split at h
    · rename_i b hK hx
      split at h
      · rename_i l hh h1 h2
        cases hi' : inS l hh b.size with
        | false => simp [hi'] at h
        | true =>
          simp only [hi', cond_true, Option.some.injEq, Prod.mk.injEq] at h
          obtain ⟨rfl, rfl⟩ := h
          have h3 : loOf S lo = some l := by rw [← h1]; cases lo <;> rfl
          have h4 : hiOf S b.size hi = some hh := by rw [← h2]; cases hi <;> rfl
          simp only [stp1, opSliceD, opSlice, opSlice0, opr_nil hr, hx, hK, h3, h4, hi', upd_none hr]
      · simp at h
    · simp at h
  · -- len
    rename_i args tys
    split at h
    · rename_i x T hx hT
      simp only [stp1, hx, hT]
      refine yes_ ?_
      unfold opLen
      split at h
      · rename_i b hK hv
        simp only [Option.some.injEq, Prod.mk.injEq] at h
        obtain ⟨rfl, rfl⟩ := h
        simp only [hK, opr_nil hr, hv, upd_none hr]
      · rename_i b hK hv
        simp only [Option.some.injEq, Prod.mk.injEq] at h
        obtain ⟨rfl, rfl⟩ := h
        simp only [hK, opr_nil hr, hv, upd_none hr]
      · rename_i b hK hv
        simp only [Option.some.injEq, Prod.mk.injEq] at h
        obtain ⟨rfl, rfl⟩ := h
        simp only [hK, opr_nil hr, hv, upd_none hr]
      · rename_i b hK hv
        simp only [Option.some.injEq, Prod.mk.injEq] at h
        obtain ⟨rfl, rfl⟩ := h
        simp only [hK, opr_nil hr, hv, upd_none hr]
      · simp at h
    · simp at h
  · simp at h
end
end Go.KM
