/- Drawn regions: every order comes to the same. Conditions: none. -/
import Derived.Test.YtdhkmgloghlnnaaDoorKmS
namespace Go.KM
open Go
open Fam (Dn dflt)
open Enc (cells sz mkE glob gany u8)
set_option autoImplicit false
set_option linter.unusedVariables false
set_option linter.unusedSimpArgs false
set_option linter.unusedSectionVars false
section
variable [Enc] {xb : Bool} {d nt : Nat} {e : Option Nat} {S T S1 S2 S' : St} {g g' g0 : G} {a : Act} {w w' w0 : World} {P : Program} {m0 : Nat} {F : Fx} {C : CTab} {ops : Array Oper}
structure EqS (S T : St) : Prop where
  tm : ∀ t, lk S.tm t = lk T.tm t
  lc : S.lc = T.lc
  mm : S.mm = T.mm
  r1 : S.rt = []
  r2 : T.rt = []
  vl : S.vl = T.vl
theorem EqS.refl (h : S.rt = []) : EqS S S := ⟨fun _ => rfl, rfl, rfl, h, h, rfl⟩
theorem EqS.symm (h : EqS S T) : EqS T S := ⟨fun t => (h.tm t).symm, h.lc.symm, h.mm.symm, h.r2, h.r1, h.vl.symm⟩
theorem EqS.trans {U : St} (h : EqS S T) (h' : EqS T U) : EqS S U := ⟨fun t => (h.tm t).trans (h'.tm t), h.lc.trans h'.lc, h.mm.trans h'.mm, h.r1, h'.r2, h.vl.trans h'.vl⟩
theorem EqS.inv (h : EqS S T) (hi : Inv xb d nt e m0 g0 w0 S g a w) : Inv xb d nt e m0 g0 w0 T g a w :=
  ⟨⟨hi.rel.sz, fun t p hp => hi.rel.tm t p ((h.tm t).trans hp), fun t cs hp => hi.rel.lc t cs (by rw [h.lc]; exact hp), fun i cs hp => hi.rel.mm i cs (by rw [h.mm]; exact hp), by rw [← h.mm]; exact hi.rel.no, fun t r hr => by rw [h.r2] at hr; simp [lk] at hr, hi.rel.wf, hi.rel.df, by rw [← h.vl]; exact hi.rel.vl⟩, hi.ext, hi.va⟩
def St.app (S : St) (U : List (Nat × PV)) : St := { S with tm := U ++ S.tm }
theorem lk_append (U l : List (Nat × PV)) (t : Nat) : lk (U ++ l) t = match lk U t with | some x => some x | none => lk l t := by
  induction U with
  | nil => rfl
  | cons x U ih =>
    obtain ⟨u, p⟩ := x
    simp only [List.cons_append, lk_cons]
    split
    · rfl
    · exact ih
theorem lk_notin {U : List (Nat × PV)} {t : Nat} (h : ∀ x ∈ U, x.1 ≠ t) : lk U t = none := by
  induction U with
  | nil => rfl
  | cons x U ih =>
    obtain ⟨u, p⟩ := x
    have h0 : u ≠ t := h (u, p) (by simp)
    rw [lk_cons, if_neg h0]
    exact ih fun x hx => h x (by simp [hx])
theorem lk_app {U : List (Nat × PV)} {t : Nat} (h : ∀ x ∈ U, x.1 ≠ t) : lk (S.app U).tm t = lk S.tm t := by
  show lk (U ++ S.tm) t = _
  rw [lk_append, lk_notin h]
theorem EqS.app (h : EqS S T) (U : List (Nat × PV)) : EqS (S.app U) (T.app U) := ⟨fun t => by show lk (U ++ S.tm) t = lk (U ++ T.tm) t; rw [lk_append, lk_append, h.tm t], h.lc, h.mm, h.r1, h.r2, h.vl⟩
theorem EqS.swap (hr : S.rt = []) {U V : List (Nat × PV)} (h : ∀ x ∈ U, ∀ y ∈ V, x.1 ≠ y.1) : EqS ((S.app U).app V) ((S.app V).app U) := by
  refine ⟨fun t => ?_, rfl, rfl, hr, hr, rfl⟩
  show lk (V ++ (U ++ S.tm)) t = lk (U ++ (V ++ S.tm)) t
  simp only [lk_append]
  cases hv : lk V t with
  | none => rfl
  | some p =>
    have : lk U t = none := lk_notin fun x hx => by
      have : ∃ y ∈ V, y.1 = t := by
        by_cases hh : ∃ y ∈ V, y.1 = t
        · exact hh
        · rw [lk_notin fun y hy he => hh ⟨y, hy, he⟩] at hv; simp at hv
      obtain ⟨y, hy, rfl⟩ := this
      exact h x hx y hy
    simp only [this]
def wantS (ops : Array Oper) (S : St) (o : Oper) : Option Bool :=
  match o.guard with
  | none => some true
  | some (j, want) => match guardVal ops S j with
    | some (_, none, t) => some (t == want)
    | some (_, some _, _) => some false
    | none => none
def setU (S : St) : Option Nat → PV → St
  | some t, p => S.upd t none p
  | none, _ => S
theorem setU_setD (hr : S.rt = []) (dst : Option Nat) (v : PV) : setD S dst v = setU S dst v := by cases dst <;> simp [setD, setU, upd_none hr]
inductive OpR (P : Program) (F : Fx) (ops : Array Oper) (o : Oper) (S : St) : St → Prop
  | skip (h1 : wantS ops S o = some false) (h2 : dstOk F o.dst = true) : OpR P F ops o S (setU S o.dst (.tup []))
  | loc (t : Nat) (p : PV) (u : Option Nat) (h1 : wantS ops S o = some true) (h2 : o.dst = some t) (h3 : Nat.blt t F.nt = true) (h4 : locP F t o.op S.opv S.cont = some (p, u)) (h5 : selfLd ops o.op S.opv = true) : OpR P F ops o S (S.upd t u p)
  | sto (b : Nat) (cs : List PV) (h1 : wantS ops S o = some true) (h2 : o.dst = none) (h3 : openSto ops = true) (h4 : stoS F o.op S.opv (lk S.lc) = some (b, cs)) : OpR P F ops o S { S with lc := (b, cs) :: S.lc }
  | call (f : Nat) (args : Array Operand) (tys : Array TypeId) (ps : List PV) (v : PV) (h1 : wantS ops S o = some true) (h2 : o.op = .call { callee := .value (.func f), args, argTypes := tys }) (h3 : argsOf S args.toList = some ps)
      (h4 : olOnce S args.toList = true) (h5 : dstOk F o.dst = true) (h6 : Real P f) (h7 : Con P false f ps [] v []) (h8 : v.noLoc = true) : OpR P F ops o S (setU (useOl S args.toList) o.dst v)
theorem mem_tmpsOf {xs : List Operand} {t : Nat} (h : Operand.tmp t ∈ xs) : t ∈ tmpsOf xs := by
  induction xs with
  | nil => simp at h
  | cons x r ih =>
    rcases List.mem_cons.1 h with h1 | h1
    · subst h1; simp [tmpsOf]
    · have ih := ih h1
      clear h
      cases x <;> simp only [tmpsOf] <;> first | exact List.mem_cons_of_mem _ ih | exact ih
theorem useOl_app : ∀ (xs : List Operand) (S T : St), S.rt = [] → T.rt = [] → (∀ t, Operand.tmp t ∈ xs → lk T.tm t = lk S.tm t) →
    ∃ U : List (Nat × PV), useOl S xs = S.app U ∧ useOl T xs = T.app U ∧ ∀ x ∈ U, Operand.tmp x.1 ∈ xs := by
  intro xs
  induction xs with
  | nil => intro S T _ _ _; exact ⟨[], rfl, rfl, by simp⟩
  | cons x r ih =>
    intro S T hs ht h
    cases x with
    | tmp t =>
      have h0 := h t (by simp)
      simp only [useOl, h0]
      split
      · rename_i X ys hX
        obtain ⟨U, h1, h2, h3⟩ := ih (S.setT t .gone) (T.setT t .gone) (by simp [St.setT, hs, dropR]) (by simp [St.setT, ht, dropR]) fun u hu => by
          show lk ((t, PV.gone) :: T.tm) u = lk ((t, PV.gone) :: S.tm) u
          rw [lk_cons, lk_cons, h u (by simp [hu])]
        refine ⟨U ++ [(t, .gone)], ?_, ?_, ?_⟩
        · rw [h1]; simp [St.app, St.setT, hs, dropR]
        · rw [h2]; simp [St.app, St.setT, ht, dropR]
        · intro y hy
          rcases List.mem_append.1 hy with hy | hy
          · exact List.mem_cons_of_mem _ (h3 y hy)
          · simp only [List.mem_singleton] at hy; subst hy; simp
      · obtain ⟨U, h1, h2, h3⟩ := ih S T hs ht fun u hu => h u (by simp [hu])
        exact ⟨U, h1, h2, fun y hy => List.mem_cons_of_mem _ (h3 y hy)⟩
    | _ =>
      obtain ⟨U, h1, h2, h3⟩ := ih S T hs ht fun u hu => h u (by simp [hu])
      exact ⟨U, h1, h2, fun y hy => List.mem_cons_of_mem _ (h3 y hy)⟩
theorem argsOf_congr : ∀ (xs : List Operand) (S T : St), (∀ x ∈ xs, T.opv x = S.opv x) → argsOf T xs = argsOf S xs := by
  intro xs
  induction xs with
  | nil => intro S T _; rfl
  | cons x r ih =>
    intro S T h
    simp only [argsOf, h x (by simp), ih S T fun y hy => h y (by simp [hy])]
theorem olOnce_congr : ∀ (xs : List Operand) (S T : St), (∀ t, Operand.tmp t ∈ xs → lk T.tm t = lk S.tm t) → olOnce T xs = olOnce S xs := by
  intro xs
  induction xs with
  | nil => intro S T _; rfl
  | cons x r ih =>
    intro S T h
    have ih' := ih S T fun t ht => h t (by simp [ht])
    cases x with
    | tmp t => simp only [olOnce, h t (by simp), ih']
    | _ => simp only [olOnce, ih']
theorem upd_app (t : Nat) (u : Option Nat) (p : PV) : ∃ U : List (Nat × PV), (∀ S : St, S.upd t u p = S.app U) ∧ ∀ x ∈ U, x.1 = t ∨ u = some x.1 := by
  cases u with
  | none => exact ⟨[(t, p)], fun S => rfl, fun x hx => by simp only [List.mem_singleton] at hx; subst hx; exact .inl rfl⟩
  | some v => exact ⟨[(t, p), (v, .gone)], fun S => rfl, fun x hx => by
      simp only [List.mem_cons, List.not_mem_nil, or_false] at hx
      rcases hx with rfl | rfl
      · exact .inl rfl
      · exact .inr rfl⟩
theorem locP_used {t v : Nat} {op : Op} {ρ : Operand → Option PV} {cont : Base → Option (List PV)} {p : PV} (h : locP F t op ρ cont = some (p, some v)) : v ∈ (match op with
    | .move x => match F.md t with
      | .take => tmpsOf [x]
      | _ => []
    | .assign x => tmpsOf [x]
    | .call c => tmpsOf c.args.toList
    | _ => []) := by
  unfold locP at h
  split at h
  · split at h
    · rename_i x q hq
      rcases dup_step h with ⟨_, _, h1⟩ | ⟨_, h2⟩
      · simp at h1
      · split at h2
        · rename_i z hmd
          cases hg : (q.okM && !Nat.beq z t) with
          | false => simp [hg] at h2
          | true =>
            simp only [hg, cond_true, Option.some.injEq, Prod.mk.injEq] at h2
            obtain ⟨_, rfl⟩ := h2
            simp [hmd, tmpsOf]
        · simp at h2
    · simp at h
  · split at h
    · rename_i x q hq
      rcases dup_step h with ⟨_, _, h1⟩ | ⟨_, h2⟩
      · simp at h1
      · cases hz : isFrz (F.md t) with
        | true => simp [hz] at h2
        | false =>
        simp only [hz, cond_false] at h2
        split at h2
        · rename_i z
          cases hg : (q.okM && !Nat.beq z t) with
          | false => simp [hg] at h2
          | true =>
            simp only [hg, cond_true, Option.some.injEq, Prod.mk.injEq] at h2
            obtain ⟨_, rfl⟩ := h2
            simp [tmpsOf]
        · simp at h2
    · simp at h
  all_goals
    exfalso
    revert h
    try simp only [just, okd]
    repeat' split
    all_goals first
      | (intro h; simp at h; done)
      | (intro h; generalize dupsR _ _ = c at h; cases c with
         | false => simp at h
         | true =>
           simp only [cond_true] at h
           repeat' split at h
           all_goals (simp at h; done))
      | (intro h; rcases dup_step h with ⟨_, _, h1⟩ | ⟨_, h1⟩ <;> simp at h1; done)
      | (rename_i c _ _; cases c <;> intro h <;> simp at h; done)
      | (intro h; generalize (Nat.beq _ _ && inB _ _) = c at h; cases c <;> simp at h; done)
      | (intro h; generalize Option.isSome _ = c at h; cases c <;> simp at h; done)
      | (intro h; generalize inB _ _ = c at h; cases c <;> simp at h; done)
      | (intro h; generalize inS _ _ _ = c at h; cases c <;> simp at h; done)
      | (intro h; generalize List.all _ _ = c at h; cases c <;> simp at h; done)
def St.appL (S : St) (U : List (Nat × PV)) (L : List (Nat × List PV)) : St := { S with tm := U ++ S.tm, lc := L ++ S.lc }
def memOk (o : Op) (S T : St) : Prop := ∀ b ∈ mems o, lk T.lc b = lk S.lc b
theorem locP_cont {t : Nat} {op : Op} {ρ : Operand → Option PV} {c c' : Base → Option (List PV)} (h : ∀ T x, op ≠ .load T x) : locP F t op ρ c = locP F t op ρ c' := by
  unfold locP
  split <;> first | rfl | exact absurd rfl (h _ _)
theorem stoS_at {op : Op} {ρ : Operand → Option PV} {lc : Nat → Option (List PV)} {b : Nat} {cs : List PV} (h : stoS F op ρ lc = some (b, cs)) : stT op = some b ∧ b ∈ mems op ∧ ∀ (ρ' : Operand → Option PV) (lc' : Nat → Option (List PV)), (∀ x ∈ opsL op, ρ' x = ρ x) → lc' b = lc b → stoS F op ρ' lc' = some (b, cs) := by
  unfold stoS at h
  split at h
  · rename_i T a v
    split at h
    · rename_i b' off p h1 h2
      cases hb : (Nat.beq a b' && p.dup) with
      | false => simp [hb] at h
      | true =>
        simp only [hb, cond_true] at h
        have hab : a = b' := Nat.eq_of_beq_eq_true (by simp only [Bool.and_eq_true] at hb; exact hb.1)
        subst hab
        split at h
        · rename_i cs0 h3
          cases hc : (Nat.beq p.cs.length (F.T.cz T) && p.cs.all PV.okc && Nat.blt 0 (F.T.cz T) && Nat.ble (off + p.cs.length) cs0.length) with
          | false => simp [hc] at h
          | true =>
            simp only [hc, cond_true, Option.some.injEq, Prod.mk.injEq] at h
            obtain ⟨rfl, rfl⟩ := h
            refine ⟨rfl, by simp [mems], fun ρ' lc' h4 h5 => ?_⟩
            simp only [stoS]
            rw [h4 _ (by simp [opsL]), h4 v (by simp [opsL]), h1, h2]
            simp only [hb, cond_true]
            rw [h5, h3]
            simp only [hc, cond_true]
        · simp at h
    · simp at h
  · simp at h
theorem OpR.local {o : Oper} (hS : S.rt = []) (h : OpR P F ops o S S') : ∃ (U : List (Nat × PV)) (L : List (Nat × List PV)), S' = S.appL U L ∧ (∀ x ∈ U, x.1 ∈ Wr F o) ∧ (L = [] ∨ openSto ops = true ∧ ∃ b cs, L = [(b, cs)] ∧ stT o.op = some b) ∧
    ∀ T : St, T.rt = [] → (T.lc = S.lc ∨ (openSto ops = true ∧ memOk o.op S T)) → T.mm = S.mm → (∀ t ∈ looks ops o, lk T.tm t = lk S.tm t) → OpR P F ops o T (T.appL U L) := by
  have hw : ∀ T : St, (∀ t ∈ looks ops o, lk T.tm t = lk S.tm t) → wantS ops T o = wantS ops S o := by
    intro T hT
    unfold wantS
    cases hg : o.guard with
    | none => rfl
    | some q =>
      obtain ⟨j, want⟩ := q
      have : guardVal ops T j = guardVal ops S j := by
        unfold guardVal
        cases hj : ops[j]? with
        | none => rfl
        | some o' =>
          cases hd : o'.dst with
          | none => simp only [hd]
          | some t =>
            simp only [hd]
            rw [hT t (by simp [looks, gdst, hg, hj, hd])]
      simp only [this]
  have hop : ∀ T : St, (∀ t ∈ looks ops o, lk T.tm t = lk S.tm t) → ∀ x ∈ opsL o.op, T.opv x = S.opv x := by
    intro T hT x hx
    cases x with
    | tmp t => exact hT t (List.mem_append_left _ (mem_tmpsOf hx))
    | _ => rfl
  cases h with
  | skip h1 h2 =>
    cases hd : o.dst with
    | none => exact ⟨[], [], by simp [setU, St.appL], by simp, .inl rfl, fun T hT h3 h4 h5 => by
        have := OpR.skip (P := P) (F := F) (ops := ops) (o := o) (S := T) ((hw T h5).trans h1) h2
        rw [hd] at this; exact this⟩
    | some t => exact ⟨[(t, .tup [])], [], by simp [setU, St.appL, St.upd], fun x hx => by simp only [List.mem_singleton] at hx; subst hx; simp [Wr, dstL, hd], .inl rfl, fun T hT h3 h4 h5 => by
        have := OpR.skip (P := P) (F := F) (ops := ops) (o := o) (S := T) ((hw T h5).trans h1) h2
        rw [hd] at this; exact this⟩
  | sto b cs h1 h2 h3 h4 =>
    obtain ⟨h5, h6, h7⟩ := stoS_at h4
    refine ⟨[], [(b, cs)], rfl, by simp, .inr ⟨h3, b, cs, rfl, h5⟩, fun T hT h8 h9 h10 => ?_⟩
    have hb : lk T.lc b = lk S.lc b := by
      rcases h8 with h8 | ⟨_, h8⟩
      · rw [h8]
      · exact h8 b h6
    exact OpR.sto b cs ((hw T h10).trans h1) h2 h3 (h7 _ _ (hop T h10) hb)
  | loc t p u h1 h2 h3 h4 hself =>
    obtain ⟨U, h5, h6⟩ := upd_app t u p
    refine ⟨U, [], h5 S, fun x hx => ?_, .inl rfl, fun T hT h7 h8 h9 => ?_⟩
    · rcases h6 x hx with h7 | h7
      · simp [Wr, dstL, h2, h7]
      · have := locP_used (h7 ▸ h4)
        rw [Wr, h2]
        exact List.mem_append_right _ this
    · have hself' : selfLd ops o.op T.opv = true := by
        rw [← hself]
        unfold selfLd
        cases hoo : o.op <;> first | rfl | (rename_i ty x; simp only [hop T h9 x (by rw [hoo]; simp [opsL])])
      have h4' : locP F t o.op T.opv T.cont = some (p, u) := by
        rw [locP_congr (hop T h9)]
        rcases h7 with h7 | ⟨hos, h7⟩
        · have hc : T.cont = S.cont := by funext b; cases b <;> simp [St.cont, h7, h8]
          rw [hc]; exact h4
        · by_cases hl : ∃ ty x, o.op = .load ty x
          · obtain ⟨ty, x, hoo⟩ := hl
            rw [hoo] at h4 hself h7 ⊢
            simp only [locP] at h4 ⊢
            cases hx : S.opv x with
            | none => simp [hx] at h4
            | some q =>
              simp only [hx] at h4 ⊢
              cases q with
              | ad bs off =>
                cases bs with
                | obj i => simp [selfLd, hx, hos] at hself
                | loc b =>
                  simp only [selfLd, hx, hos, Bool.not_true, Bool.or_false] at hself
                  cases x with
                  | tmp y =>
                    have hyb : y = b := Nat.eq_of_beq_eq_true hself
                    subst hyb
                    have : lk T.lc y = lk S.lc y := h7 y (by simp [mems])
                    simp only [St.cont, this] at h4 ⊢
                    exact h4
                  | _ => simp at hself
              | _ => exact h4
          · rw [locP_cont (c' := S.cont) fun ty x hh => hl ⟨ty, x, hh⟩]; exact h4
      have := OpR.loc (P := P) (F := F) (ops := ops) (o := o) (S := T) t p u ((hw T h9).trans h1) h2 h3 h4' hself'
      rw [h5 T] at this; exact this
  | call f args tys ps v h1 h2 h3 h4 h5 h6 h7 h8 =>
    have hsub : ∀ x ∈ args.toList, x ∈ opsL o.op := fun x hx => by rw [h2]; exact hx
    have hlk : ∀ T : St, (∀ t ∈ looks ops o, lk T.tm t = lk S.tm t) → ∀ t, Operand.tmp t ∈ args.toList → lk T.tm t = lk S.tm t := fun T hT t ht =>
      hT t (List.mem_append_left _ (mem_tmpsOf (hsub _ ht)))
    obtain ⟨U, h9, _, h10⟩ := useOl_app args.toList S S hS hS fun _ _ => rfl
    refine ⟨(match o.dst with | some t => [(t, v)] | none => []) ++ U, [], ?_, fun x hx => ?_, .inl rfl, fun T hT h11 h12 h13 => ?_⟩
    · rw [h9]; cases o.dst <;> simp [setU, St.app, St.appL, St.upd]
    · rcases List.mem_append.1 hx with hx | hx
      · cases hd : o.dst with
        | none => rw [hd] at hx; simp at hx
        | some t => rw [hd] at hx; simp only [List.mem_singleton] at hx; subst hx; simp [Wr, dstL, hd]
      · rw [Wr, h2]
        exact List.mem_append_right _ (mem_tmpsOf (h10 x hx))
    · obtain ⟨V, h14, h15, _⟩ := useOl_app args.toList S T hS hT (hlk T h13)
      have hUV : U = V := by
        have : (S.app U).tm = (S.app V).tm := by rw [← h9, ← h14]
        exact List.append_cancel_right this
      subst hUV
      have := OpR.call (P := P) (F := F) (ops := ops) (o := o) (S := T) f args tys ps v ((hw T h13).trans h1) h2 (by rw [argsOf_congr _ S T fun x hx => hop T h13 x (hsub x hx)]; exact h3)
        (by rw [olOnce_congr _ S T (hlk T h13)]; exact h4) h5 h6 h7 h8
      rw [h15] at this
      have heq : setU (T.app U) o.dst v = T.app ((match o.dst with | some t => [(t, v)] | none => []) ++ U) := by cases o.dst <;> simp [setU, St.app, St.upd]
      rw [heq] at this
      exact this
theorem OpR.rt {o : Oper} (hS : S.rt = []) (h : OpR P F ops o S S') : S'.rt = [] := by
  obtain ⟨U, L, rfl, _⟩ := h.local hS
  exact hS
theorem EqS.appL (h : EqS S T) (U : List (Nat × PV)) (L : List (Nat × List PV)) : EqS (S.appL U L) (T.appL U L) := ⟨(h.app U).tm, by show L ++ S.lc = L ++ T.lc; rw [h.lc], h.mm, h.r1, h.r2, h.vl⟩
theorem OpR.cong {o : Oper} (hE : EqS S T) (h : OpR P F ops o S S') : ∃ T', OpR P F ops o T T' ∧ EqS S' T' := by
  obtain ⟨U, L, rfl, _, _, h1⟩ := h.local hE.r1
  exact ⟨T.appL U L, h1 T hE.r2 (.inl hE.lc.symm) hE.mm.symm fun t _ => (hE.tm t).symm, hE.appL U L⟩
theorem disj_ne {xs ys : List Nat} (h : disj xs ys = true) : ∀ x ∈ xs, ∀ y ∈ ys, x ≠ y := by
  intro x hx y hy hxy
  subst hxy
  simp only [disj, List.all_eq_true, Bool.not_eq_true', List.any_eq_false] at h
  have := h x hx x hy
  simp at this
theorem OpR.swap {x y : Oper} (hS : S.rt = []) (hap : apartW F ops x y = true) (h1 : OpR P F ops x S S1) (h2 : OpR P F ops y S1 S2) : ∃ S1' S2', OpR P F ops y S S1' ∧ OpR P F ops x S1' S2' ∧ EqS S2 S2' := by
  simp only [apartW, Bool.and_eq_true] at hap
  obtain ⟨⟨ha, hb, hc⟩, hm1, hm2⟩ := hap
  obtain ⟨U, L, rfl, h3, hL, h4⟩ := h1.local hS
  obtain ⟨V, L', rfl, h5, hL', h6⟩ := h2.local (S := S.appL U L) hS
  have hmem : ∀ {z z' : Op} {b : Nat}, apartM z z' = true → stT z = some b → stT z' = none ∧ ∀ c ∈ mems z', c ≠ b := by
    intro z z' b hz hb
    simp only [apartM, hb, Bool.and_eq_true, Bool.not_eq_true', Option.isSome_eq_false_iff, Option.isNone_iff_eq_none] at hz
    refine ⟨hz.1, fun c hcm hcb => ?_⟩
    have := hz.2
    simp only [List.any_eq_false] at this
    exact this c hcm (by rw [hcb]; simp)
  have hlc : L' ++ (L ++ S.lc) = L ++ (L' ++ S.lc) := by
    rcases hL with rfl | ⟨_, b, cs, rfl, hb1⟩
    · rfl
    · rcases hL' with rfl | ⟨_, b', cs', rfl, hb2⟩
      · rfl
      · have := (hmem hm1 hb1).1; rw [hb2] at this; cases this
  have hsw := EqS.swap hS fun u hu v hv => disj_ne hc _ (h3 u hu) _ (h5 v hv)
  refine ⟨S.appL V L', (S.appL V L').appL U L, ?_, ?_, ⟨hsw.tm, hlc, rfl, hS, hS, rfl⟩⟩
  · refine h6 S hS ?_ rfl fun t ht => (lk_app (S := S) fun u hu => disj_ne ha _ (h3 u hu) _ ht).symm
    rcases hL with rfl | ⟨ho, b, cs, rfl, hb1⟩
    · exact .inl rfl
    · refine .inr ⟨ho, fun c hcm => ?_⟩
      show lk S.lc c = lk ((b, cs) :: S.lc) c
      rw [lk_cons, if_neg fun h => (hmem hm1 hb1).2 c hcm h.symm]
  · refine h4 (S.appL V L') hS ?_ rfl fun t ht => lk_app (S := S) fun v hv => disj_ne hb _ (h5 v hv) _ ht
    rcases hL' with rfl | ⟨ho, b, cs, rfl, hb1⟩
    · exact .inl rfl
    · refine .inr ⟨ho, fun c hcm => ?_⟩
      show lk ((b, cs) :: S.lc) c = lk S.lc c
      rw [lk_cons, if_neg fun h => (hmem hm2 hb1).2 c hcm h.symm]
inductive Ch (P : Program) (F : Fx) (ops : Array Oper) : List Nat → St → St → Prop
  | nil {S S' : St} (h : EqS S S') : Ch P F ops [] S S'
  | cons {i : Nat} {l : List Nat} {S S1 S' : St} (o : Oper) (h1 : ops[i]? = some o) (h2 : OpR P F ops o S S1) (h3 : Ch P F ops l S1 S') : Ch P F ops (i :: l) S S'
theorem Ch.cong {l : List Nat} (h : Ch P F ops l S S') : ∀ {T : St}, EqS S T → Ch P F ops l T S' := by
  induction h with
  | nil h => exact fun hE => .nil (hE.symm.trans h)
  | cons o h1 h2 h3 ih =>
    intro T hE
    obtain ⟨T', h4, h5⟩ := h2.cong hE
    exact .cons o h1 h4 (ih h5)
theorem Ch.front {i : Nat} {o : Oper} {l2 : List Nat} (hi : ops[i]? = some o) : ∀ (l1 : List Nat) {S S' : St}, S.rt = [] → Ch P F ops (l1 ++ i :: l2) S S' → (∀ j ∈ l1, ∀ o', ops[j]? = some o' → apartW F ops o' o = true) →
    ∃ S1, OpR P F ops o S S1 ∧ Ch P F ops (l1 ++ l2) S1 S' := by
  intro l1
  induction l1 with
  | nil =>
    intro S S' hS h _
    cases h with
    | cons o' h1 h2 h3 =>
      rw [hi] at h1
      obtain rfl := Option.some.inj h1
      exact ⟨_, h2, h3⟩
  | cons j l1 ih =>
    intro S S' hS h hap
    cases h with
    | cons o' h1 h2 h3 =>
      obtain ⟨S2, h4, h5⟩ := ih (h2.rt hS) h3 fun k hk => hap k (by simp [hk])
      obtain ⟨S1', S2', h6, h7, h8⟩ := OpR.swap hS (hap j (by simp) o' h1) h2 h4
      exact ⟨S1', h6, .cons o' h1 h7 (h5.cong h8)⟩
end
end Go.KM
