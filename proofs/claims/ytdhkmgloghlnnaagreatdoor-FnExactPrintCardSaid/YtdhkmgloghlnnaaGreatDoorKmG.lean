/- Addresses, slices, lengths, parts of a tuple. Conditions: none. -/
import Derived.Test.YtdhkmgloghlnnaaGreatDoorKmF
import Derived.Laws.Slices
namespace Go.KM
open Go
open Fam (Dn dflt)
open Enc (cells sz mkE glob gany u8)
set_option autoImplicit false
set_option linter.unusedVariables false
set_option linter.unusedSimpArgs false
set_option linter.unusedSectionVars false
section
variable [Enc] {d nt : Nat} {e : Option Nat} {S : St} {g g' : G} {a : Act} {w w' : World} {P : Program}
theorem addr_add (b o n : Nat) : (⟨b, o, none⟩ : Addr).add n = ⟨b, o + n, none⟩ := by unfold Addr.add; split <;> simp_all
theorem fieldAt_run {T : Tab} (hT : TabOk P T) {ty f o n b off : Nat} (h : T.off ty f = some (o, n)) : (Instr.fieldAt ty (.pointer (some ⟨b, off, none⟩)) f).run P w = .ok (.pointer (some ⟨b, off + o, none⟩)) w := by
  obtain ⟨fs, fd, i, h1, h2, h3, h4, h5, h6⟩ := hT.off _ _ _ _ h
  have hn : ¬ n = 0 := by omega
  unfold Instr.fieldAt
  rw [Sem.run_bind, sem_underlying h1]
  simp only [Result.andThen_ok, h2, Instr.sureAddr, pure_bind]
  rw [Sem.run_bind]
  simp only [fieldPlace, sizeOf, typeInfo, Sem.run_bind, run_program, Result.andThen_ok, h4, Sem.run_pure, h5, Sem.run_ite, if_neg hn, addr_add, h3]
theorem fieldAddr_ran {F : Fx} (hT : TabOk P F.T) {t m ty f : Nat} {x : Operand} {S' : St} (ht : t < nt) (h : Rel d nt e S g a w) (ho : opFieldAddr F t ty x f S = some S') {o : Oper} (hop : o.op = .fieldAddr ty x f) :
    RanQ d nt e m S' g a w t ((execOp a.eval o).run P w) := by
  unfold opFieldAddr at ho
  split at ho
  · simp at ho
  · rename_i of n hoff
    have hr : ∀ b off, a.eval x = .pointer (some ⟨b, off, none⟩) → (execOp a.eval o).run P w = .ok (.value (.pointer (some ⟨b, off + of, none⟩))) w := by
      intro b off hx
      simp [execOp, hop, hx, fieldAt_run hT hoff]
    split at ho
    · rename_i s U i off hx
      cases hs : s.isVar t with
      | true => simp [hs] at ho
      | false =>
        simp only [hs, cond_false, Option.some.injEq] at ho
        subst ho
        obtain ⟨u, rfl, hu⟩ := opr_tmp hx
        obtain ⟨_, xs', b, len, cap, h1, h2, h3, h4⟩ := h.rt u _ hu
        refine ran_refQ h ht (hr _ _ h4) ⟨xs', b, len, cap, h1, h2, h3, by rw [Nat.add_assoc]⟩ fun s' hs' => ?_
        simp only [RV.src, Option.some.injEq] at hs'
        subst hs'; exact hs
    · simp at ho
    · split at ho
      · rename_i b off hx
        simp only [Option.some.injEq] at ho
        subst ho
        have h1 := eval_ad h hx
        refine ran_valQ h ht (hr _ _ h1) ?_
        have h2 := opv_dup h hx rfl (Key.tm d t)
        cases b with
        | loc u => rfl
        | obj i => rw [h1] at h2; cases h2; rename_i hi; exact .ad i _ hi
      · rename_i U y off hx
        simp only [Option.some.injEq] at ho
        subst ho
        obtain ⟨bk, o', C, h1, h2, h3⟩ := eval_fa h hx
        refine ran_valQ h ht (hr _ _ h1) ?_
        show RepF g (.fa U y (off + of)) _
        rw [Nat.add_assoc]
        exact RepF.fa' h2 h3
      · simp at ho
theorem elem_eq {t el : Nat} (h : P.underlying t = some (.slice el)) : P.elem t = el := by simp [Program.elem, h]
theorem indexAt_run {T : Tab} (hT : TabOk P T) {ty el b off len cap : Nat} {k : IntKind} {n : Int} (h : T.K ty = .slice el) (h0 : 0 ≤ n) (h1 : n < len) :
    (Instr.indexAt ty (.slice (some ⟨b, off, none⟩) len cap) (.int k n)).run P w = .ok (.pointer (some ⟨b, off + n.toNat * sz el, none⟩)) w := by
  obtain ⟨h2, h3, h4, i, z, h5, h6, _⟩ := hT.slice _ _ h
  have h7 := elem_eq h2
  rw [run_indexAt_slice w ty _ len cap k n (by rw [h7]; exact h2), if_pos ⟨h0, h1⟩, h7]
  simp [sizeOf, typeInfo, h5, h6, addr_add]
theorem repF_fl {T : Nat} {xs : List (Dn T)} {v : Value} (h : RepF g (.fl T xs) v) : (xs = [] ∧ v = .slice none 0 0) ∨
    ∃ A off cap C, v = .slice (some A) xs.length cap ∧ (xs ≠ [] → A = ⟨A.block, off, none⟩ ∧ g.fz A.block = some C) ∧ xs.length ≤ cap ∧ ∀ i x, xs[i]? = some x → CellsAt g C (off + i * sz T) (cells T x) := by
  cases h with
  | fl0 => exact .inl ⟨rfl, rfl⟩
  | fl _ _ A off cap C V hf hc hv hr => exact .inr ⟨A, off, cap, C, rfl, hf, hc, fun i x hi j c hj => ⟨V i j, hv i x hi j c hj, hr i x hi j c hj⟩⟩
theorem eval_fl (h : Rel d nt e S g a w) {x : Operand} {T : Nat} {xs : List (Dn T)} (hx : S.opv x = some (.fl T xs)) : RepF g (.fl T xs) (a.eval x) := opv_dup h hx rfl (fun _ => .obj)
theorem eval_vo (h : Rel d nt e S g a w) {x : Operand} {k : Nat} (hx : S.opv x = some (.vo k)) : g.va k = some (a.eval x) := by
  have h1 : RepF g (.vo k) (a.eval x) := opv_dup h hx rfl (fun _ => .obj)
  generalize a.eval x = v at h1
  cases h1 with
  | vo _ _ _ _ h2 => exact h2
theorem inB_lt {n : Int} {m : Nat} (h : inB n m = true) : 0 ≤ n ∧ n < m := by simpa [inB] using h
theorem repF_fo {T : Nat} {o : Option (List (Dn T))} {v : Value} (h : RepF g (.fo T o) v) : RepF g (.fl T (o.getD [])) v := by
  cases h with
  | foN => exact .fl0 T
  | foS _ xs _ h => exact h
theorem fol_fl (h : Rel d nt e S g a w) {x : Operand} {T : Nat} {xs : List (Dn T)} (hx : (S.opv x).map PV.fol = some (.fl T xs)) : RepF g (.fl T xs) (a.eval x) := by
  obtain ⟨p, hp, hq⟩ := Option.map_eq_some_iff.1 hx
  cases p with
  | fo U o =>
    simp only [PV.fol] at hq
    rw [← hq]
    exact repF_fo (opv_dup h hp rfl (fun _ => .obj))
  | _ => simp only [PV.fol] at hq; first | (cases hq; done) | (rw [hq] at hp; exact eval_fl h hp)
theorem fol_ol {x : Option PV} {T : Nat} {xs : List (Dn T)} (hx : x.map PV.fol = some (.ol T xs)) : x = some (.ol T xs) := by
  obtain ⟨p, rfl, hq⟩ := Option.map_eq_some_iff.1 hx
  cases p <;> simp only [PV.fol] at hq <;> first | (cases hq; done) | rw [hq]
theorem fol_vo {x : Option PV} {k : Nat} (hx : x.map PV.fol = some (.vo k)) : x = some (.vo k) := by
  obtain ⟨p, rfl, hq⟩ := Option.map_eq_some_iff.1 hx
  cases p <;> simp only [PV.fol] at hq <;> first | (cases hq; done) | rw [hq]
theorem indexAddr_ran {F : Fx} (hT : TabOk P F.T) {t m ty : Nat} {x i : Operand} {S' : St} (ht : t < nt) (h : Rel d nt e S g a w) (ho : opIndexAddr F t ty x i S = some (true, S')) {o : Oper} (hop : o.op = .indexAddr ty x i) :
    RanQ d nt e m S' g a w t ((execOp a.eval o).run P w) := by
  unfold opIndexAddr at ho
  split at ho
  · rename_i el n hK hi
    obtain ⟨k, hk⟩ := int?_eval h hi
    have hr : ∀ b off len cap, a.eval x = .slice (some ⟨b, off, none⟩) len cap → 0 ≤ n → n < len → (execOp a.eval o).run P w = .ok (.value (.pointer (some ⟨b, off + n.toNat * sz el, none⟩))) w := by
      intro b off len cap hx h0 h1
      simp [execOp, hop, hx, hk, indexAt_run hT hK h0 h1]
    split at ho
    · rename_i U xs s hx
      cases hg : (Nat.beq U el && !s.isVar t) with
      | false => simp [hg] at ho
      | true =>
        simp only [hg, cond_true, Option.some.injEq, Prod.mk.injEq] at ho
        simp only [Bool.and_eq_true, Bool.not_eq_true'] at hg
        obtain ⟨hU, hs⟩ := hg
        have := Nat.eq_of_beq_eq_true hU
        subst this
        obtain ⟨h1, rfl⟩ := ho
        obtain ⟨h2, h3⟩ := inB_lt h1
        obtain ⟨u, rfl, hu⟩ := opr_tmp hx
        obtain ⟨_, h4, h5⟩ := h.rt u _ hu
        obtain ⟨h6, h7⟩ := h5 s rfl
        obtain ⟨κ, h8, h9⟩ := src_rep h h6 h7
        obtain ⟨vs, h10, h11⟩ := h8
        rcases h10.2 with ⟨h12, h13⟩ | ⟨b, cap, cur, h12, _⟩
        · omega
        · refine ran_refQ h ht (hr b 0 _ cap h12 h2 h3) ⟨xs, b, _, cap, h6, by rw [h7, h12], by omega, by simp⟩ fun s' hs' => ?_
          simp only [RV.src, Option.some.injEq] at hs'
          subst hs'; exact hs
    · simp at ho
    · split at ho
      · rename_i U xs hx
        cases hU : Nat.beq U el with
        | false => simp [hU] at ho
        | true =>
          simp only [hU, cond_true, Option.some.injEq, Prod.mk.injEq] at ho
          have := Nat.eq_of_beq_eq_true hU
          subst this
          obtain ⟨h1, rfl⟩ := ho
          obtain ⟨h2, h3⟩ := inB_lt h1
          rcases repF_fl (fol_fl h hx) with ⟨h4, _⟩ | ⟨A, off, cap, C, h4, h5, h6, h7⟩
          · subst h4; simp at h3; omega
          · obtain ⟨h8, h9⟩ := h5 (fun hh => by subst hh; simp at h3; omega)
            rw [h8] at h4
            refine ran_valQ h ht (hr _ _ _ _ h4 h2 h3) (RepF.fa' (off := 0) h9 (h7 n.toNat _ ?_))
            rw [List.getD_eq_getElem?_getD, List.getElem?_eq_getElem (by omega)]; rfl
      · rename_i U xs hx
        replace hx := fol_ol hx
        split at ho
        · rename_i u _
          cases hg : (Nat.beq U el && !Nat.beq u t) with
          | false => simp [hg] at ho
          | true =>
            simp only [hg, cond_true, Option.some.injEq, Prod.mk.injEq] at ho
            simp only [Bool.and_eq_true, Bool.not_eq_true'] at hg
            obtain ⟨hU, hs⟩ := hg
            have := Nat.eq_of_beq_eq_true hU
            subst this
            obtain ⟨h1, rfl⟩ := ho
            obtain ⟨h2, h3⟩ := inB_lt h1
            have hx : lk S.tm u = some (.ol U xs) := hx
            have hlt := (h.tm u _ hx).1
            have h7 : hdr g a w (.var u) = some (a.tmps.getD u undef) := by
              show a.tmps[u]? = _
              rw [Array.getD_eq_getD_getElem?, Array.getElem?_eq_getElem (by rw [h.sz]; exact hlt)]
              rfl
            have h6 : S.at_ (.var u) = some (.ol U xs) := hx
            obtain ⟨κ, h8, h9⟩ := src_rep h h6 h7
            obtain ⟨vs, h10, h11⟩ := h8
            rcases h10.2 with ⟨h12, h13⟩ | ⟨b, cap, cur, h12, _⟩
            · omega
            · refine ran_refQ h ht (hr b 0 _ cap h12 h2 h3) ⟨xs, b, _, cap, h6, by rw [h7, h12], by omega, by simp⟩ fun s' hs' => ?_
              simp only [RV.src, Option.some.injEq] at hs'
              subst hs'; exact hs
        · simp at ho
      · rename_i k hx
        replace hx := fol_vo hx
        split at ho
        · rename_i U xs hk'
          cases hg : Nat.beq U el with
          | false => simp [hg] at ho
          | true =>
            simp only [hg, cond_true, Option.some.injEq, Prod.mk.injEq] at ho
            have := Nat.eq_of_beq_eq_true hg
            subst this
            obtain ⟨h1, rfl⟩ := ho
            obtain ⟨h2, h3⟩ := inB_lt h1
            have h7 : hdr g a w (.vo k) = some (a.eval x) := eval_vo h hx
            have h6 : S.at_ (.vo k) = some (.ol U xs) := hk'
            obtain ⟨κ, h8, h9⟩ := src_rep h h6 h7
            obtain ⟨vs, h10, h11⟩ := h8
            rcases h10.2 with ⟨h12, h13⟩ | ⟨b, cap, cur, h12, _⟩
            · omega
            · refine ran_refQ h ht (hr b 0 _ cap h12 h2 h3) ⟨xs, b, _, cap, h6, by rw [h7, h12], by omega, by simp⟩ fun s' hs' => ?_
              simp only [RV.src, Option.some.injEq] at hs'
              subst hs'; rfl
        · simp at ho
      · simp at ho
  · simp at ho
theorem bounds_run (h : Rel d nt e S g a w) {lo hi : Option Operand} {l r : Int} {n cap : Nat} (isS : Bool) (hl : loOf S lo = some l) (hh : hiOf S n hi = some r) (hn : n ≤ cap) (hb : inS l r n = true) :
    (Instr.sliceBounds isS n cap (lo.map a.eval) (hi.map a.eval) none).run P w = .ok (l.toNat, r.toNat, cap) w := by
  simp only [inS, Bool.and_eq_true, decide_eq_true_eq] at hb
  obtain ⟨⟨h1, h2⟩, h3, h4⟩ := hb
  have hlo : lo = none ∧ l = 0 ∨ ∃ o k, lo = some o ∧ a.eval o = .int k l := by
    cases lo with
    | none => simp only [loOf, Option.some.injEq] at hl; exact .inl ⟨rfl, hl.symm⟩
    | some o => obtain ⟨k, hk⟩ := int?_eval h hl; exact .inr ⟨o, k, rfl, hk⟩
  have hhi : hi = none ∧ r = n ∨ ∃ o k, hi = some o ∧ a.eval o = .int k r := by
    cases hi with
    | none => simp only [hiOf, Option.some.injEq] at hh; exact .inl ⟨rfl, hh.symm⟩
    | some o => obtain ⟨k, hk⟩ := int?_eval h hh; exact .inr ⟨o, k, rfl, hk⟩
  have e1 : (r.toNat : Int) = r := Int.toNat_of_nonneg h1
  rcases hlo with ⟨rfl, rfl⟩ | ⟨ol, kl, rfl, h5⟩ <;> rcases hhi with ⟨rfl, rfl⟩ | ⟨oh, kh, rfl, h6⟩
  · simp [Instr.sliceBounds]
  · simp only [Instr.sliceBounds, Option.map_none, Option.map_some, h6, pure_bind, Sem.run_bind]
    rw [run_sliceBound w kh r cap _ h1 (by omega)]
    simp
  · simp only [Instr.sliceBounds, Option.map_none, Option.map_some, h5, pure_bind, Sem.run_bind, Sem.run_pure, Result.andThen_ok]
    rw [run_sliceBound w kl l n _ h3 h4]
    simp
  · simp only [Instr.sliceBounds, Option.map_none, Option.map_some, h5, h6, pure_bind, Sem.run_bind, Sem.run_pure, Result.andThen_ok]
    rw [run_sliceBound w kh r cap _ h1 (by omega)]
    simp only [Result.andThen_ok, Sem.run_bind, Sem.run_pure]
    rw [run_sliceBound w kl l r.toNat _ h3 (by omega)]
    simp
theorem sub_get {α : Type} (xs : List α) (l r : Int) (h3 : 0 ≤ l) (i : Nat) (x : α) (hi : (sub xs l r)[i]? = some x) : xs[l.toNat + i]? = some x := by
  simp only [sub, List.getElem?_drop, List.getElem?_take] at hi
  split at hi
  · exact hi
  · simp at hi
theorem sub_len {α : Type} (xs : List α) {l r : Int} (h : inS l r xs.length = true) : (sub xs l r).length = r.toNat - l.toNat := by
  simp only [inS, Bool.and_eq_true, decide_eq_true_eq] at h
  simp [sub]; omega
theorem slice_run {T : Tab} (hT : TabOk P T) (h : Rel d nt e S g a w) {ty el : Nat} (hK : T.K ty = .slice el) {lo hi : Option Operand} {l r : Int} {ao : Option Addr} {n cap : Nat} (hl : loOf S lo = some l) (hh : hiOf S n hi = some r) (hn : n ≤ cap) (hb : inS l r n = true) :
    (Instr.sliceAt ty (.slice ao n cap) (lo.map a.eval) (hi.map a.eval) none).run P w = .ok (.slice (if cap = l.toNat then ao else ao.map (·.add (l.toNat * sz el))) (r.toNat - l.toNat) (cap - l.toNat)) w := by
  obtain ⟨h2, h3, h4, i, z, h5, h6, _⟩ := hT.slice _ _ hK
  have h7 := elem_eq h2
  rw [run_sliceAt_slice w ty _ _ _ _ (by rw [h7]; exact h2), run_slice_any w ty ao n cap (by rw [h7]; exact h2), bounds_run h true hl hh hn hb, h7]
  simp [sizeOf, typeInfo, h5, h6, sliced]
theorem sliced_row {b off cap n l r : Nat} (hlr : l ≤ r) (hr : r ≤ n) (hn : n ≤ cap) (s : Nat) :
    ∃ off' , (Value.slice (if cap = l then some ⟨b, off, none⟩ else (some (⟨b, off, none⟩ : Addr)).map (·.add (l * s))) (r - l) (cap - l)) = .slice (some ⟨b, off', none⟩) (r - l) (cap - l) ∧ (l < r → off' = off + l * s) := by
  by_cases hc : cap = l
  · exact ⟨off, by rw [if_pos hc], fun h => by omega⟩
  · exact ⟨off + l * s, by rw [if_neg hc]; simp only [Option.map_some, addr_add], fun _ => rfl⟩
theorem sliceOl_ran {F : Fx} (hT : TabOk P F.T) {t m ty u U : Nat} {xs : List (Dn U)} {x : Operand} {hi : Option Operand} {r : Int} (ht : t < nt) (h : Rel d nt e S g a w) (hx : lk S.tm u = some (.ol U xs)) (hxe : a.eval x = a.eval (.tmp u))
    (hK : F.T.K ty = .slice U) (hh : hiOf S xs.length hi = some r) (hb : inS 0 r xs.length = true) {o : Oper} (hop : o.op = .slice ty x none hi none) :
    RanQ d nt e m ((S.setT u .gone).setT t (.ol U (xs.take r.toNat))) g a w t ((execOp a.eval o).run P w) := by
  have hex : ∀ v, (Instr.sliceAt ty (a.eval (.tmp u)) ((none : Option Operand).map a.eval) (hi.map a.eval) none).run P w = .ok v w → (execOp a.eval o).run P w = .ok (.value v) w := by
    intro v hv
    have hv : (Instr.sliceAt ty (a.eval (.tmp u)) none (hi.map a.eval) none).run P w = .ok v w := hv
    simp [execOp, hop, hxe, hv]
  have hb' := hb
  simp only [inS, Bool.and_eq_true, decide_eq_true_eq] at hb'
  obtain ⟨hu, hrep⟩ := h.tm u _ hx
  have hrep : RepO g w (Key.tm d u 0) U xs (a.tmps.getD u undef) := hrep
  -- the shorter list, at the same key
  have hrow := hrep
  obtain ⟨vs, h1, h2, h3⟩ := hrow
  have e0 : r.toNat ≤ xs.length := by omega
  have hshort : ∃ v', (execOp a.eval o).run P w = .ok (.value v') w ∧ RepO g w (Key.tm d u 0) U (xs.take r.toNat) v' := by
    rcases h1.2 with ⟨h4, h5⟩ | ⟨b, cap, cur, h4, h5, h6, h7, h8, h9, h10⟩
    · have hx0 : xs = [] := List.eq_nil_of_length_eq_zero h5
      subst hx0
      have h11 := slice_run (P := P) (w := w) (lo := none) hT h hK (ao := none) (cap := 0) (l := 0) rfl hh (Nat.le_refl _) hb
      have e2 : r.toNat = 0 := by simp at hb'; omega
      refine ⟨_, hex _ (by rw [show a.eval (.tmp u) = _ from h4]; exact h11), ?_⟩
      rw [h4] at hrep
      simpa [e2] using hrep
    · have h11 := slice_run (P := P) (w := w) (lo := none) hT h hK (ao := some ⟨b, 0, none⟩) (cap := cap) (l := 0) rfl hh h7 hb
      refine ⟨_, hex _ (by rw [show a.eval (.tmp u) = _ from h4]; exact h11), ?_⟩
      have e3 : (xs.take r.toNat).length = r.toNat := by simp; omega
      have e4 : (if cap = (0 : Int).toNat then some (⟨b, 0, none⟩ : Addr) else (some (⟨b, 0, none⟩ : Addr)).map (·.add ((0 : Int).toNat * sz U))) = some ⟨b, 0, none⟩ := by
        simp only [Int.toNat_zero, Nat.zero_mul, Option.map_some, addr_add, Nat.add_zero, ite_self]
      rw [e4]
      simp only [Int.toNat_zero, Nat.sub_zero]
      refine ⟨vs.take (r.toNat * sz U), ⟨by rw [e3, List.length_take, h1.1]; exact Nat.min_eq_left (Nat.mul_le_mul_right _ e0), .inr ⟨b, cap, cur, by rw [e3], h5, h6, by omega, h8, h9, ?_⟩⟩, fun b' hb'' => h2 b' (by rw [h4]; exact hb''), fun i x hi j c hj => ?_⟩
      · rw [e3, ← h10, List.take_take, Nat.min_eq_left (Nat.mul_le_mul_right _ e0)]
      · have hi2 : i < r.toNat ∧ xs[i]? = some x := by
          rw [List.getElem?_take] at hi
          split at hi
          · exact ⟨by assumption, hi⟩
          · simp at hi
        obtain ⟨y, h12, h13⟩ := h3 i x hi2.2 j c hj
        refine ⟨y, ?_, h13⟩
        have hj' : j < sz U := by have := (List.getElem?_eq_some_iff.1 hj).1; rw [hT.enc.len] at this; exact this
        have hlt : i * sz U + j < r.toNat * sz U := by
          have : (i + 1) * sz U ≤ r.toNat * sz U := Nat.mul_le_mul_right _ hi2.1
          rw [Nat.add_mul, Nat.one_mul] at this; omega
        simp only [List.getElem?_toArray] at h12 ⊢
        rw [List.getElem?_take, if_pos hlt]; exact h12
  obtain ⟨v', h14, h15⟩ := hshort
  obtain ⟨g', h16, h17, h18, _⟩ := (h.gone hu).move (m := m) (κ' := .tm d t 0) h15 mine_tm mine_tm free_gone
  exact ⟨g', v', h14, h16.setT ht h17, h18⟩
theorem slice_ran0 {F : Fx} (hT : TabOk P F.T) {t m ty : Nat} {x : Operand} {lo hi : Option Operand} {S' : St} (ht : t < nt) (h : Rel d nt e S g a w) (ho : opSlice0 F t ty x lo hi S = some (true, S')) {o : Oper} (hop : o.op = .slice ty x lo hi none) :
    RanQ d nt e m S' g a w t ((execOp a.eval o).run P w) := by
  have hex : ∀ v, (Instr.sliceAt ty (a.eval x) (lo.map a.eval) (hi.map a.eval) none).run P w = .ok v w → (execOp a.eval o).run P w = .ok (.value v) w := by
    intro v hv; simp [execOp, hop, hv]
  unfold opSlice0 at ho
  split at ho
  · rename_i U xs src hx
    obtain ⟨u, rfl, hu⟩ := opr_tmp hx
    split at ho
    · rename_i el l r hK hl hh
      cases hU : Nat.beq U el with
      | false => simp [hU] at ho
      | true =>
        simp only [hU, cond_true, Option.some.injEq, Prod.mk.injEq] at ho
        have := Nat.eq_of_beq_eq_true hU
        subst this
        obtain ⟨hb, rfl⟩ := ho
        obtain ⟨_, h4, _⟩ := h.rt u _ hu
        have hb' := hb
        simp only [inS, Bool.and_eq_true, decide_eq_true_eq] at hb'
        rcases h4 with ⟨rfl, h5⟩ | ⟨b, off, cap, C, E, h5, h6, h7, h8, h9⟩
        · have h10 : a.eval (.tmp u) = .slice none 0 0 := h5
          have h11 := slice_run (P := P) (w := w) hT h hK (ao := none) (cap := 0) hl hh (Nat.le_refl _) hb
          have e1 : l.toNat = 0 := by simp at hb'; omega
          have e2 : r.toNat = 0 := by simp at hb'; omega
          refine ran_refQ h ht (hex _ (by rw [h10]; exact h11)) ⟨.inl ⟨by simp [sub], by simp [e1, e2]⟩, fun s hs => by simp at hs⟩ fun s hs => by simp [RV.src] at hs
        · have h10 : a.eval (.tmp u) = .slice (some ⟨b, off, none⟩) xs.length cap := h5
          have h11 := slice_run (P := P) (w := w) hT h hK (ao := some ⟨b, off, none⟩) (cap := cap) hl hh h6 hb
          obtain ⟨off', h12, h13⟩ := sliced_row (b := b) (off := off) (cap := cap) (n := xs.length) (l := l.toNat) (r := r.toNat) (by omega) (by omega) h6 (sz U)
          refine ran_refQ h ht (hex _ (by rw [h10]; exact h11)) ⟨.inr ⟨b, off', cap - l.toNat, C, E, ?_, by rw [sub_len xs hb]; omega, h7, h8, fun i x hi => ?_⟩, fun s hs => by simp at hs⟩ fun s hs => by simp [RV.src] at hs
          · rw [h12, sub_len xs hb]
          · have hi' := (List.getElem?_eq_some_iff.1 hi).1
            rw [sub_len xs hb] at hi'
            rw [h13 (by omega)]
            have := h9 _ _ (sub_get xs l r hb'.2.1 i x hi)
            rw [Nat.add_mul, ← Nat.add_assoc] at this
            exact this
    · simp at ho
  · simp at ho
  · split at ho
    · rename_i b hx
      split at ho
      · rename_i l r hK hl hh
        simp only [Option.some.injEq, Prod.mk.injEq] at ho
        obtain ⟨hb, rfl⟩ := ho
        refine ran_valQ h ht (v := .string (b.extract l.toNat r.toNat)) (hex _ ?_) (.s _)
        rw [run_sliceAt_string w ty _ _ _ _ (hT.str _ hK), eval_s h hx]
        simp only [Instr.slice, Sem.run_bind, sem_underlying (hT.str _ hK), Result.andThen_ok]
        have := bounds_run (P := P) (w := w) h (n := b.size) (cap := b.size) false hl hh (Nat.le_refl _) hb
        simp [this]
      · simp at ho
    · rename_i U xs hx
      split at ho
      · rename_i el l r hK hl hh
        cases hU : Nat.beq U el with
        | false => simp [hU] at ho
        | true =>
          simp only [hU, cond_true, Option.some.injEq, Prod.mk.injEq] at ho
          have := Nat.eq_of_beq_eq_true hU
          subst this
          obtain ⟨hb, rfl⟩ := ho
          have hb' := hb
          simp only [inS, Bool.and_eq_true, decide_eq_true_eq] at hb'
          rcases repF_fl (eval_fl h hx) with ⟨rfl, h5⟩ | ⟨A, off, cap, C, h5, h7, h6, h9⟩
          · have h11 := slice_run (P := P) (w := w) hT h hK (ao := none) (cap := 0) hl hh (Nat.le_refl _) hb
            have e1 : l.toNat = 0 := by simp at hb'; omega
            have e2 : r.toNat = 0 := by simp at hb'; omega
            refine ran_valQ h ht (hex _ (by rw [h5]; exact h11)) ?_
            simp only [e1, e2, sub, List.take_nil, List.drop_nil, Option.map_none, ite_self]
            exact .fl0 U
          · by_cases hn : xs = []
            · subst hn
              have h11 := slice_run (P := P) (w := w) hT h hK (ao := some A) (cap := cap) hl hh h6 hb
              have e1 : l.toNat = 0 := by simp at hb'; omega
              have e2 : r.toNat = 0 := by simp at hb'; omega
              refine ran_valQ h ht (hex _ (by rw [h5]; exact h11)) ?_
              simp only [e1, e2, sub, List.take_nil, List.drop_nil, Option.map_some, Nat.sub_self, Nat.sub_zero]
              have key : ∀ (B : Addr), RepF g (.fl U ([] : List (Dn U))) (.slice (some B) 0 cap) := fun B => .fl U [] B 0 cap #[] (fun _ _ => undef) (fun hh => (hh rfl).elim) (Nat.zero_le _) (fun i x hi => by simp at hi) (fun i x hi => by simp at hi)
              split
              · exact key _
              · exact key _
            · obtain ⟨h8, h10⟩ := h7 hn
              generalize hbk : A.block = b at h8 h10
              subst h8
              have h11 := slice_run (P := P) (w := w) hT h hK (ao := some ⟨b, off, none⟩) (cap := cap) hl hh h6 hb
              obtain ⟨off', h12, h13⟩ := sliced_row (b := b) (off := off) (cap := cap) (n := xs.length) (l := l.toNat) (r := r.toNat) (by omega) (by omega) h6 (sz U)
              refine ran_valQ h ht (hex _ (by rw [h5]; exact h11)) ?_
              rw [h12, ← sub_len xs hb]
              refine RepF.fl' (fun _ => h10) (by rw [sub_len xs hb]; omega) fun i x hi => ?_
              have hi' := (List.getElem?_eq_some_iff.1 hi).1
              rw [sub_len xs hb] at hi'
              rw [h13 (by omega)]
              have := h9 _ _ (sub_get xs l r hb'.2.1 i x hi)
              rw [Nat.add_mul, ← Nat.add_assoc] at this
              exact this
      · simp at ho
    · rename_i U xs hx
      split at ho
      · rename_i el r u hK hh _
        cases hU : Nat.beq U el with
        | false => simp [hU] at ho
        | true =>
          simp only [hU, cond_true, Option.some.injEq, Prod.mk.injEq] at ho
          have := Nat.eq_of_beq_eq_true hU
          subst this
          obtain ⟨hb, rfl⟩ := ho
          have hb' := hb
          simp only [inS, Bool.and_eq_true, decide_eq_true_eq] at hb'
          exact sliceOl_ran hT ht h hx rfl hK hh hb hop
      · simp at ho
    · simp at ho
theorem slice_ran {F : Fx} (hT : TabOk P F.T) {t m ty : Nat} {x : Operand} {lo hi : Option Operand} {S' : St} (ht : t < nt) (h : Rel d nt e S g a w) (ho : opSlice F t ty x lo hi S = some (true, S')) {o : Oper} (hop : o.op = .slice ty x lo hi none) :
    RanQ d nt e m S' g a w t ((execOp a.eval o).run P w) := by
  unfold opSlice at ho
  split at ho
  · rename_i U xs u hx
    cases htk : isTake (F.md t) with
    | false => rw [htk] at ho; exact slice_ran0 hT ht h ho hop
    | true =>
      simp only [htk, cond_true] at ho
      split at ho
      · rename_i el r hK hh
        cases hU : Nat.beq U el with
        | false => simp [hU] at ho
        | true =>
          simp only [hU, cond_true, Option.some.injEq, Prod.mk.injEq] at ho
          have := Nat.eq_of_beq_eq_true hU
          subst this
          obtain ⟨hb, rfl⟩ := ho
          obtain ⟨y, rfl, hy⟩ := opr_tmp hx
          obtain ⟨_, h1, h2⟩ := h.rt y _ hy
          obtain ⟨h3, h4⟩ := h2 _ rfl
          have h4 : a.tmps[u]? = some (a.tmps.getD y undef) := h4
          refine sliceOl_ran hT ht h h3 ?_ hK hh hb hop
          show a.tmps.getD y undef = a.tmps.getD u undef
          rw [Array.getD_eq_getD_getElem? (i := u), h4]; rfl
      · simp at ho
  · exact slice_ran0 hT ht h ho hop
theorem execLen (o : Oper) {x : Operand} {T : Nat} {args : Array Operand} {tys : Array TypeId} (hop : o.op = .call { callee := .builtin .len, args := args, argTypes := tys }) (ha : args.toList = [x]) (ht : tys.toList = [T]) {v : Value}
    (hr : (Builtin.len_ #[T] o.type #[a.eval x]).run P w = .ok v w) : (execOp a.eval o).run P w = .ok (.value v) w := by
  have h1 : args = #[x] := by rw [← Array.toArray_toList (xs := args), ha]
  have h2 : tys = #[T] := by rw [← Array.toArray_toList (xs := tys), ht]
  subst h1 h2
  simp [execOp, hop, resolve, invoke, builtin, hr]
theorem len_ran {F : Fx} (hT : TabOk P F.T) {t m ty : Nat} {x : Operand} {S' : St} (ht : t < nt) (h : Rel d nt e S g a w) (ho : opLen F t ty x S = some S') {o : Oper} {args : Array Operand} {tys : Array TypeId}
    (hop : o.op = .call { callee := .builtin .len, args := args, argTypes := tys }) (ha : args.toList = [x]) (hty : tys.toList = [ty]) : RanQ d nt e m S' g a w t ((execOp a.eval o).run P w) := by
  have hsl : ∀ (el : Nat) (ao : Option Addr) (n c : Nat), F.T.K ty = .slice el → a.eval x = .slice ao n c → (execOp a.eval o).run P w = .ok (.value (.int .i64 n)) w := by
    intro el ao n c hK hx
    have h2 := (hT.slice _ _ hK).1
    refine execLen o hop ha hty ?_
    rw [hx, run_len_slice w ty _ ao n c (by rw [elem_eq h2]; exact h2)]
    rfl
  unfold opLen at ho
  split at ho
  · rename_i el U xs src hK hx
    simp only [Option.some.injEq] at ho
    subst ho
    obtain ⟨u, rfl, hu⟩ := opr_tmp hx
    obtain ⟨_, h4, _⟩ := h.rt u _ hu
    rcases h4 with ⟨rfl, h5⟩ | ⟨b, off, cap, C, E, h5, _⟩
    · exact ran_valQ h ht (hsl _ _ _ _ hK h5) (.i _ _)
    · exact ran_valQ h ht (hsl _ _ _ _ hK h5) (.i _ _)
  · simp at ho
  · rename_i hK _
    split at ho <;> simp only [Option.some.injEq, reduceCtorEq] at ho
    subst ho
    rename_i b hx
    refine ran_valQ h ht (v := .int .i64 b.size) (execLen o hop ha hty ?_) (.i _ _)
    rw [eval_s h hx]
    simp [Builtin.len_, sem_underlying (hT.str _ hK), goInt]
  · rename_i el hK _
    split at ho <;> first | (simp only [reduceCtorEq] at ho; done) | (simp only [Option.some.injEq] at ho; subst ho) | skip
    · rename_i U xs hx
      rcases repF_fl (eval_fl h hx) with ⟨rfl, h5⟩ | ⟨b, off, cap, C, h5, _⟩
      · exact ran_valQ h ht (hsl _ _ _ _ hK h5) (.i _ _)
      · exact ran_valQ h ht (hsl _ _ _ _ hK h5) (.i _ _)
    · rename_i U xs hx
      have h1 := opv_rep h hx
      have h2 : ∃ ao c, a.eval x = .slice ao xs.length c := by
        generalize a.eval x = v at h1
        obtain ⟨vs, h3, _⟩ : RepO g w _ U xs v := h1
        rcases h3.2 with ⟨h4, h5⟩ | ⟨b, cap, cur, h4, _⟩
        · exact ⟨none, 0, by rw [h4, h5]⟩
        · exact ⟨_, _, h4⟩
      obtain ⟨ao, c, h3⟩ := h2
      exact ran_valQ h ht (hsl _ _ _ _ hK h3) (.i _ _)
    · rename_i hx
      exact ran_valQ h ht (hsl _ _ _ _ hK (eval_nl h hx)) (.i _ _)
    · rename_i k hx
      split at ho
      · rename_i U xs hk
        simp only [Option.some.injEq] at ho
        subst ho
        obtain ⟨v, h4, h5⟩ := h.vl k _ hk
        have h6 := eval_vo h hx
        rw [h4] at h6
        obtain rfl := Option.some.inj h6
        obtain ⟨vs, h3, _⟩ : RepO g w _ U xs (a.eval x) := h5
        rcases h3.2 with ⟨h7, h8⟩ | ⟨b, cap, cur, h7, _⟩
        · exact ran_valQ h ht (hsl _ none _ 0 hK (by rw [h7, h8])) (.i _ _)
        · exact ran_valQ h ht (hsl _ _ _ _ hK h7) (.i _ _)
      · simp at ho
  · simp at ho
end
end Go.KM
