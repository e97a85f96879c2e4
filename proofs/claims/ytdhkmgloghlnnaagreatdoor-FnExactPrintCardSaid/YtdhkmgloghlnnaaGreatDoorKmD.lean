/- More operations of the abstract machine that leave memory alone. Conditions: none. -/
import Derived.Test.YtdhkmgloghlnnaaGreatDoorKmC
namespace Go.KM
open Go
open Fam (Dn dflt)
open Enc (cells sz mkE glob gany u8)
set_option autoImplicit false
set_option linter.unusedVariables false
set_option linter.unusedSimpArgs false
set_option linter.unusedSectionVars false
section
variable [Enc] {d nt : Nat} {e : Option Nat} {S : St} {g g' : G} {a : Act} {w w' : World} {P : Program}
theorem sem_underlying {t : TypeId} {td : TypeDesc} (h : P.underlying t = some td) (w : World) : (underlying t).run P w = .ok td w := run_underlying h w
def FlatOk (P : Program) (t : Nat) (z : List PV) : Prop :=
  (P.eqGuardType P.depth t = false) ∧ ∀ (g : G) (w : World) (A B : Array Value) (cs ds : List PV) (r : Bool), A.size = cs.length → B.size = ds.length → CellsAt g A 0 cs → CellsAt g B 0 ds → shps z cs = true → shps z ds = true → eqCs cs ds = some r →
    (Op.equal t (.agg A) (.agg B)).run P w = .ok r w
theorem shps_plain : ∀ {zs cs : List PV}, shps zs cs = true → cs.all PV.plain = true := by
  intro zs
  induction zs with
  | nil => intro cs h; cases cs <;> simp_all [shps]
  | cons z zs ih =>
    intro cs h
    cases cs with
    | nil => simp [shps] at h
    | cons c cs =>
      simp only [shps, Bool.and_eq_true] at h
      simp only [List.all_cons, Bool.and_eq_true]
      refine ⟨?_, ih h.2⟩
      have := h.1
      unfold shp at this
      split at this <;> first | rfl | simp at this
theorem eqGuard_plain {op : BinOp} {t : TypeId} {x y : Operand} {u v : Value} (h : (match u, v with | .nilIface, .nilIface => False | .agg _, .agg _ => False | _, _ => True)) : (eqGuard op t x y u v).run P w = .ok () w := by
  have he : ∀ op, (op = .eql ∨ op = .neq) → (eqGuard op t x y u v).run P w = .ok () w := by
    intro op ho
    rcases ho with rfl | rfl
    all_goals
      dsimp only [eqGuard]
      simp only [Bool.not_true, Bool.false_eq_true, if_false]
      split
      · exact h.elim
      · exact h.elim
      · rfl
  cases op with
  | eql => exact he _ (.inl rfl)
  | neq => exact he _ (.inr rfl)
  | _ => rfl
theorem equal_ptr {t el : Nat} (ht : P.underlying t = some (.pointer el)) (x : Option Addr) : (Op.equal t (.pointer x) (.pointer none)).run P w = .ok x.isNone w := by
  show (Op.equalIn (9999 + 1) t _ _).run P w = _
  unfold Op.equalIn
  rw [Sem.run_bind, sem_underlying ht]
  cases x <;> rfl
theorem equal_slice {t el : Nat} (ht : P.underlying t = some (.slice el)) (x : Option Addr) (l c : Nat) : (Op.equal t (.slice x l c) (.slice none 0 0)).run P w = .ok x.isNone w := by
  show (Op.equalIn (9999 + 1) t _ _).run P w = _
  unfold Op.equalIn
  rw [Sem.run_bind, sem_underlying ht]
  cases x <;> rfl
theorem equal_bool {t : Nat} (ht : P.underlying t = some .bool) (x y : Bool) : (Op.equal t (.bool x) (.bool y)).run P w = .ok (x == y) w := by
  show (Op.equalIn (9999 + 1) t _ _).run P w = _
  unfold Op.equalIn
  rw [Sem.run_bind, sem_underlying ht]
  rfl
theorem plain_T {p : PV} (hp : p.plain = true) {v : Value} (h : RepF g p v) (κ : Nat → Key) : RepT g w κ p v := by
  cases p with
  | ad b off => cases b with
    | loc u => simp [PV.plain] at hp
    | obj i => exact h
  | _ => first | exact h | simp [PV.plain] at hp
theorem eval_np (h : Rel d nt e S g a w) {x : Operand} (hx : S.opv x = some .np) : a.eval x = .pointer none := by
  have := opv_dup h hx rfl (fun _ => .obj)
  generalize a.eval x = v at this ⊢
  cases this; rfl
theorem eval_nl (h : Rel d nt e S g a w) {x : Operand} (hx : S.opv x = some .nl) : a.eval x = .slice none 0 0 := by
  have := opv_dup h hx rfl (fun _ => .obj)
  generalize a.eval x = v at this ⊢
  cases this; rfl
theorem binOp_eql {u v : Value} {t : Nat} (h : match u, v with | .int _ _, .int _ _ | .float _ _, .float _ _ | .complex _ _ _, .complex _ _ _ | .string _, .string _ => False | _, _ => True) :
    Go.binOp .eql t u v = (do pure (.bool (← Op.equal t u v))) ∧ Go.binOp .neq t u v = (do pure (.bool (!(← Op.equal t u v)))) := by
  cases u <;> cases v <;> first | exact ⟨rfl, rfl⟩ | exact h.elim
theorem bin_run {T : Tab} (hT : TabOk P T) (hF : ∀ t z, T.flat t = some z → FlatOk P t z) {ty : Nat} {op : BinOp} {x y : Operand} {p q r : PV} (h : Rel d nt e S g a w)
    (hx : S.opv x = some p) (hy : S.opv y = some q) (ho : binP T op ty p q = some (true, r)) :
    ∃ v, (Go.binOp op ty (a.eval x) (a.eval y)).run P w = .ok v w ∧ (eqGuard op ty x y (a.eval x) (a.eval y)).run P w = .ok () w ∧ RepF g r v ∧ r.plain = true := by
  have hp := opv_rep h hx
  have hq := opv_rep h hy
  have eqs : ∀ (u v : Value) (b : Bool), (match u, v with | .int _ _, .int _ _ | .float _ _, .float _ _ | .complex _ _ _, .complex _ _ _ | .string _, .string _ => False | _, _ => True) →
      (Op.equal ty u v).run P w = .ok b w → (Go.binOp .eql ty u v).run P w = .ok (.bool b) w ∧ (Go.binOp .neq ty u v).run P w = .ok (.bool (!b)) w := by
    intro u v b h1 h2
    have h3 := binOp_eql (t := ty) h1
    exact ⟨by rw [h3.1]; simp [h2], by rw [h3.2]; simp [h2]⟩
  have eqo : ∀ (u v : Value) (b : Bool), (match u, v with | .int _ _, .int _ _ | .float _ _, .float _ _ | .complex _ _ _, .complex _ _ _ | .string _, .string _ => False | _, _ => True) →
      (Op.equal ty u v).run P w = .ok b w → eqOp op b = some (true, r) → ∃ z, (Go.binOp op ty u v).run P w = .ok z w ∧ RepF g r z ∧ r.plain = true := by
    intro u v b h1 h2 h3
    have h4 := eqs u v b h1 h2
    cases op <;> simp only [eqOp, Option.some.injEq, Prod.mk.injEq, true_and, reduceCtorEq] at h3
    · subst h3; exact ⟨_, h4.1, .b _, rfl⟩
    · subst h3; exact ⟨_, h4.2, .b _, rfl⟩
  unfold binP at ho
  split at ho
  · rename_i k a1 k' b1
    rw [eval_i h hx, eval_i h hy]
    unfold binN at ho
    split at ho
    · simp only [Option.some.injEq, Prod.mk.injEq, decide_eq_true_eq] at ho
      obtain ⟨h1, rfl⟩ := ho
      exact ⟨_, by simp [Go.binOp, Op.shift, Int.not_lt.2 h1]; rfl, eqGuard_plain trivial, .i _ _, rfl⟩
    · simp only [Option.some.injEq, Prod.mk.injEq, decide_eq_true_eq] at ho
      obtain ⟨h1, rfl⟩ := ho
      exact ⟨_, by simp [Go.binOp, Op.shift, Int.not_lt.2 h1]; rfl, eqGuard_plain trivial, .i _ _, rfl⟩
    · rename_i h1 h2
      cases hk : kEq k k' with
      | false => simp [hk] at ho
      | true =>
        simp only [hk, cond_true] at ho
        have hk' := kEq_eq hk
        subst hk'
        obtain ⟨v, h3, h4, h5⟩ := binI_run (P := P) (w := w) (g := g) ho rfl ⟨fun hh => h1 hh, fun hh => h2 hh⟩ ty
        exact ⟨v, h3, eqGuard_plain trivial, h4, h5⟩
  · rw [eval_s h hx, eval_s h hy]
    obtain ⟨v, h3, h4, h5⟩ := binS_run (P := P) (w := w) (g := g) ho rfl ty
    exact ⟨v, h3, eqGuard_plain trivial, h4, h5⟩
  · split at ho
    · rename_i hK
      rw [eval_b h hx, eval_b h hy]
      obtain ⟨z, h1, h2, h3⟩ := eqo _ _ _ trivial (equal_bool (hT.bool _ hK) _ _) ho
      exact ⟨z, h1, eqGuard_plain trivial, h2, h3⟩
    · simp at ho
  · rename_i cs ds
    cases hz : T.flat ty with
    | none => simp [hz] at ho
    | some z0 =>
    simp only [hz] at ho
    cases hff : (shps z0 cs && shps z0 ds) with
    | false => simp [hff] at ho
    | true =>
      simp only [hff, cond_true] at ho
      simp only [Bool.and_eq_true] at hff
      obtain ⟨hsc, hsd⟩ := hff
      have hpc := shps_plain hsc
      have hpd := shps_plain hsd
      unfold obind at ho
      split at ho
      · rename_i b hb
        obtain ⟨A, h1, h2, h3⟩ := hp
        obtain ⟨B, h4, h5, h6⟩ := hq
        rw [h1, h4]
        obtain ⟨h7, h8⟩ := hF ty z0 hz
        have toF : ∀ {cs : List PV} {A : Array Value} {κ : Nat → Key}, cs.all PV.plain = true → (∀ (j : Nat) (c : PV), cs[j]? = some c → ∃ u, A[j]? = some u ∧ RepC g w (κ j) c u) → CellsAt g A 0 cs :=
          fun hp h j c hj => let ⟨u, h1, h2⟩ := h j c hj; ⟨u, by rw [Nat.zero_add]; exact h1, (plain_key (all_plain hp hj)).1 h2⟩
        obtain ⟨z, h9, h10, h11⟩ := eqo _ _ _ trivial (h8 g w A B cs ds b h2 h5 (toF hpc h3) (toF hpd h6) hsc hsd hb) ho
        refine ⟨z, h9, ?_, h10, h11⟩
        have hg : ∀ op, (eqGuard op ty x y (.agg A) (.agg B)).run P w = .ok () w := by
          intro op
          unfold eqGuard
          simp [h7]
        exact hg op
      · simp at ho
  · split at ho
    · rename_i el hK
      unfold obind at ho
      split at ho
      · rename_i b hb
        rw [eval_np h hy]
        have hv : ∃ z : Option Addr, a.eval x = .pointer z ∧ z.isNone = b := by
          generalize a.eval x = v at hp ⊢
          cases p with
          | np => cases hp; simp only [nilP, Option.some.injEq] at hb; subst hb; exact ⟨none, rfl, rfl⟩
          | ad bs off =>
            simp only [nilP, Option.some.injEq] at hb; subst hb
            cases bs with
            | loc u => simp only [RepT, RepV] at hp; exact ⟨_, hp, rfl⟩
            | obj i => cases hp; exact ⟨_, rfl, rfl⟩
          | slf T i b =>
            simp only [nilP, Option.some.injEq] at hb; subst hb
            have hp : RepF g (.slf T i b) v := hp
            cases hp with
            | slf _ _ _ hT hi => exact ⟨_, rfl, by cases b <;> rfl⟩
          | fa T x off =>
            simp only [nilP, Option.some.injEq] at hb; subst hb
            obtain ⟨bk, o, C, h1, _⟩ := repF_fa hp
            exact ⟨_, h1, rfl⟩
          | fp T x =>
            simp only [nilP, Option.some.injEq] at hb; subst hb
            have hp : RepF g (.fp T x) v := hp
            cases hp with
            | fpN => exact ⟨_, rfl, rfl⟩
            | fpS _ y _ h1 => obtain ⟨bk, o, C, h2, _⟩ := repF_fa h1; exact ⟨_, h2, rfl⟩
          | _ => simp [nilP] at hb
        obtain ⟨z, h2, h3⟩ := hv
        rw [h2]
        obtain ⟨y', h4, h5, h6⟩ := eqo _ _ _ trivial (equal_ptr (hT.ptr _ _ hK) z) (by rw [h3]; exact ho)
        exact ⟨y', h4, eqGuard_plain trivial, h5, h6⟩
      · simp at ho
    · simp at ho
  · split at ho
    · rename_i el hK
      split at ho
      · rename_i c b hb
        rw [eval_nl h hy]
        simp only [Option.map_eq_some_iff, Prod.mk.injEq] at ho
        obtain ⟨⟨c', r'⟩, ho, rfl, rfl⟩ := ho
        have hc' : c' = true := by cases op <;> simp [eqOp] at ho <;> exact ho.1
        subst hc'
        have hlist : ∀ {T : Nat} {xs : List (Dn T)} {v : Value}, xs.isEmpty = false → RepF g (.fl T xs) v → ∃ z l k, v = .slice z l k ∧ z.isNone = false := by
          intro T xs v hx hv
          cases hv with
          | fl0 => simp at hx
          | fl _ _ A off cap => exact ⟨_, _, _, rfl, rfl⟩
        have hv : ∃ z l k, a.eval x = .slice z l k ∧ z.isNone = b := by
          generalize a.eval x = v at hp ⊢
          cases p with
          | nl => cases hp; simp only [nilL, Option.some.injEq, Prod.mk.injEq, true_and] at hb; subst hb; exact ⟨none, 0, 0, rfl, rfl⟩
          | fl T xs =>
            simp only [nilL, Option.some.injEq, Prod.mk.injEq, Bool.not_eq_true'] at hb
            obtain ⟨h1, rfl⟩ := hb
            exact hlist h1 hp
          | fo T o =>
            simp only [nilL, Option.some.injEq, Prod.mk.injEq] at hb
            obtain ⟨h1, rfl⟩ := hb
            have hp : RepF g (.fo T o) v := hp
            cases hp with
            | foN => exact ⟨none, 0, 0, rfl, rfl⟩
            | foS _ xs _ h2 => exact hlist (by simpa [foC] using h1) h2
          | _ => simp [nilL] at hb
        obtain ⟨z, l, k, h2, rfl⟩ := hv
        rw [h2]
        obtain ⟨y', h4, h5, h6⟩ := eqo _ _ _ trivial (equal_slice (hT.slice _ _ hK).1 z l k) ho
        exact ⟨y', h4, eqGuard_plain trivial, h5, h6⟩
      · simp at ho
    · simp at ho
  · simp at ho
end
end Go.KM
