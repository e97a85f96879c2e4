/- copy: parts of lists that are written. Conditions: none. -/
import Derived.Test.YtdhkmgloghlnnaaDoorKmM
namespace Go.KM
open Go
open Fam (Dn dflt)
open Enc (cells sz mkE glob gany u8)
set_option autoImplicit false
set_option linter.unusedVariables false
set_option linter.unusedSimpArgs false
set_option linter.unusedSectionVars false
section
variable [Enc] {d nt : Nat} {e : Option Nat} {S : St} {g g' : G} {a : Act} {w w' : World} {P : Program}
theorem sliceD_ran {F : Fx} (hT : TabOk P F.T) {t m ty : Nat} {x : Operand} {lo hi : Option Operand} {S' : St} (ht : t < nt) (h : Rel d nt e S g a w) (ho : opSliceD F t ty x lo hi S = some (true, S')) {o : Oper} (hop : o.op = .slice ty x lo hi none) :
    RanQ d nt e m S' g a w t ((execOp a.eval o).run P w) := by
  unfold opSliceD at ho
  split at ho
  · rename_i U xs s hx hmd
    obtain ⟨u, rfl, hu⟩ := opr_tmp hx
    split at ho
    · rename_i el l r hK hl hh
      cases hU : (Nat.beq U el && !s.isVar t) with
      | false => simp [hU] at ho
      | true =>
        simp only [hU, cond_true, Option.some.injEq, Prod.mk.injEq] at ho
        simp only [Bool.and_eq_true, Bool.not_eq_true'] at hU
        have := Nat.eq_of_beq_eq_true hU.1
        subst this
        obtain ⟨hb, rfl⟩ := ho
        have hsv := hU.2
        obtain ⟨_, h4, h4'⟩ := h.rt u _ hu
        obtain ⟨hs, hd⟩ := h4' s rfl
        have hrep := src_key h hs hd
        have hb' := hb
        simp only [inS, Bool.and_eq_true, decide_eq_true_eq] at hb'
        obtain ⟨vs, q1, _, _⟩ := hrep
        have hex : ∀ v, (Instr.sliceAt ty (a.eval (.tmp u)) (lo.map a.eval) (hi.map a.eval) none).run P w = .ok v w → (execOp a.eval o).run P w = .ok (.value v) w := by
          intro v hv; simp [execOp, hop, hv]
        have hsrc : ∀ s', (RV.sl s U l.toNat r.toNat).src = some s' → s'.isVar t = false := fun s' hs' => by simp only [RV.src, Option.some.injEq] at hs'; subst hs'; exact hsv
        rcases q1.2 with ⟨h5, h6⟩ | ⟨b, cap, cur, h5, _, _, h6, _⟩
        · have h10 : a.eval (.tmp u) = .slice none 0 0 := h5
          have hb2 : inS l r 0 = true := by rw [h6] at hb; exact hb
          have hh2 : hiOf S 0 hi = some r := by rw [h6] at hh; exact hh
          rw [h6] at hb'
          have h11 := slice_run (P := P) (w := w) hT h hK (ao := none) (cap := 0) hl hh2 (Nat.le_refl _) hb2
          have e0 : r.toNat - l.toNat = 0 := by omega
          rw [e0] at h11
          exact ran_refQ h ht (hex _ (by rw [h10]; exact h11)) ⟨xs, hs, by omega, by omega, .inl ⟨by omega, _, _, rfl⟩⟩ hsrc
        · have h10 : a.eval (.tmp u) = .slice (some ⟨b, 0, none⟩) xs.length cap := h5
          have h11 := slice_run (P := P) (w := w) hT h hK (ao := some ⟨b, 0, none⟩) (cap := cap) hl hh h6 hb
          obtain ⟨off', h12, h13⟩ := sliced_row (b := b) (off := 0) (cap := cap) (n := xs.length) (l := l.toNat) (r := r.toNat) (by omega) (by omega) h6 (sz U)
          refine ran_refQ h ht (hex _ (by rw [h10]; exact h11)) ⟨xs, hs, by omega, by omega, ?_⟩ hsrc
          rw [h12]
          by_cases hlr : l.toNat < r.toNat
          · rw [h13 hlr, Nat.zero_add]
            exact .inr ⟨hlr, b, xs.length, cap, _, hd.trans (by rw [h5]), rfl⟩
          · have e0 : r.toNat - l.toNat = 0 := by omega
            rw [e0]
            exact .inl ⟨by omega, _, _, rfl⟩
    · simp at ho
  · exact slice_ran hT ht h ho hop
theorem dst_rep (h : Rel d nt e S g a w) {x : Operand} {s : Src} {T lo hi : Nat} (hx : S.dst x = some (s, T, lo, hi)) : RepR S g a w (a.eval x) (.sl s T lo hi) := by
  unfold St.dst at hx
  split at hx
  · rename_i s' T' lo' hi' hr
    simp only [Option.some.injEq, Prod.mk.injEq] at hx
    obtain ⟨rfl, rfl, rfl, rfl⟩ := hx
    obtain ⟨u, rfl, hu⟩ := opr_tmp hr
    exact (h.rt u _ hu).2
  · rename_i T' xs s' hr
    simp only [Option.some.injEq, Prod.mk.injEq] at hx
    obtain ⟨rfl, rfl, rfl, rfl⟩ := hx
    obtain ⟨u, rfl, hu⟩ := opr_tmp hr
    obtain ⟨_, h4, h4'⟩ := h.rt u _ hu
    obtain ⟨hs, hd⟩ := h4' s' rfl
    obtain ⟨vs, q1, _, _⟩ := src_key h hs hd
    refine ⟨xs, hs, Nat.zero_le _, Nat.le_refl _, ?_⟩
    rcases q1.2 with ⟨h5, h6⟩ | ⟨b, cap, cur, h5, _, _, h6, _⟩
    · exact .inl ⟨h6.symm ▸ rfl, none, 0, h5⟩
    · by_cases hn : 0 < xs.length
      · refine .inr ⟨hn, b, xs.length, cap, cap, hd.trans (by rw [h5]), ?_⟩
        rw [Nat.zero_mul, Nat.sub_zero]; exact h5
      · have hz : xs.length = 0 := by omega
        exact .inl ⟨hz.symm, some ⟨b, 0, none⟩, cap, by rw [show a.eval (.tmp u) = _ from h5, hz]⟩
  · simp at hx
theorem list_set_self {α : Type} {l : List α} {i : Nat} {x : α} (h : l[i]? = some x) : l.set i x = l := by
  obtain ⟨h1, h2⟩ := List.getElem?_eq_some_iff.1 h
  subst h2
  exact List.set_getElem_self h1
theorem copy_cells {T : Nat} (hE : EncOk) {xs zs : List (Dn T)} {lo : Nat} (hl : lo + zs.length ≤ xs.length) {C : Array Value} {news : List Value} (hC : ∀ i x, xs[i]? = some x → CellsAt g C (i * sz T) (cells T x))
    (hs : xs.length * sz T ≤ C.size) (hn : news.length = zs.length * sz T) (hN : ∀ i y, zs[i]? = some y → CellsAt g news.toArray (i * sz T) (cells T y)) :
    ∀ k z, (xs.take lo ++ zs ++ xs.drop (lo + zs.length))[k]? = some z → CellsAt g (C.toList.take (lo * sz T) ++ news ++ C.toList.drop (lo * sz T + news.length)).toArray (k * sz T) (cells T z) := by
  intro k z hk j c hj
  have hj' : j < sz T := by have := (List.getElem?_eq_some_iff.1 hj).1; rw [hE.len] at this; exact this
  have hle : (lo + zs.length) * sz T ≤ xs.length * sz T := Nat.mul_le_mul_right _ hl
  rw [Nat.add_mul] at hle
  have hsz : lo * sz T + news.toArray.size ≤ C.size := by simp only [List.size_toArray]; omega
  have hC' := fun i => row_splice (C := C) (A := news.toArray) hsz i
  simp only [List.size_toArray, List.getElem?_toArray] at hC'
  have hlen : (xs.take lo).length = lo := by rw [List.length_take]; omega
  rw [List.append_assoc] at hk
  by_cases h1 : k < lo
  · rw [List.getElem?_append_left (by omega), List.getElem?_take, if_pos h1] at hk
    obtain ⟨u, h4, h5⟩ := hC k z hk j c hj
    refine ⟨u, ?_, h5⟩
    have := Nat.mul_le_mul_right (sz T) (show k + 1 ≤ lo by omega)
    rw [Nat.add_mul, Nat.one_mul] at this
    simp only [List.getElem?_toArray]
    rw [hC', if_neg (by omega)]; exact h4
  · rw [List.getElem?_append_right (by omega), hlen] at hk
    by_cases h2 : k - lo < zs.length
    · rw [List.getElem?_append_left h2] at hk
      obtain ⟨u, h4, h5⟩ := hN _ z hk j c hj
      refine ⟨u, ?_, h5⟩
      have e1 : k * sz T = lo * sz T + (k - lo) * sz T := by rw [← Nat.add_mul]; congr 1; omega
      have := Nat.mul_le_mul_right (sz T) (show k - lo + 1 ≤ zs.length by omega)
      rw [Nat.add_mul, Nat.one_mul] at this
      simp only [List.getElem?_toArray]
      rw [hC', if_pos (by omega)]
      rw [show k * sz T + j - lo * sz T = (k - lo) * sz T + j by omega]
      simpa using h4
    · rw [List.getElem?_append_right (by omega), List.getElem?_drop] at hk
      rw [show lo + zs.length + (k - lo - zs.length) = k by omega] at hk
      obtain ⟨u, h4, h5⟩ := hC k z hk j c hj
      refine ⟨u, ?_, h5⟩
      have := Nat.mul_le_mul_right (sz T) (show lo + zs.length ≤ k by omega)
      rw [Nat.add_mul] at this
      simp only [List.getElem?_toArray]
      rw [hC', if_neg (by omega)]; exact h4
theorem execCopy (o : Oper) {s x : Operand} {T : Nat} {args : Array Operand} {tys : Array TypeId} (hop : o.op = .call { callee := .builtin .copy, args := args, argTypes := tys }) (ha : args.toList = [s, x]) (ht : tys.toList = [T, T]) {v : Value}
    (hr : (Builtin.copy_ #[T, T] o.type #[a.eval s, a.eval x]).run P w = .ok v w') : (execOp a.eval o).run P w = .ok (.value v) w' := by
  have h1 : args = #[s, x] := by rw [← Array.toArray_toList (xs := args), ha]
  have h2 : tys = #[T, T] := by rw [← Array.toArray_toList (xs := tys), ht]
  subst h1 h2
  simp [execOp, hop, resolve, invoke, builtin, hr]
theorem copy_zero {F : Fx} (hT : TabOk P F.T) {T el ty : Nat} (hK : F.T.K T = .slice el) {p q : Option Addr} {n m c c' : Nat} (hn : min m n = 0) :
    (Builtin.copy_ #[T, T] ty #[.slice p n c, .slice q m c']).run P w = .ok (.int .i64 0) w := by
  obtain ⟨h2, h3, h4, i, z, h5, h6, _⟩ := hT.slice _ _ hK
  have hn' : Nat.min m n = 0 := hn
  have hl : ∀ a : Addr, (loadCells a 0).run P w = .ok #[] w := fun a => run_loadCells_list (P := P) (w := w) a [] (by simp)
  cases p <;> cases q <;> simp [Builtin.copy_, run_underlying h2, sizeOf, typeInfo, h5, Builtin.lenOf, Builtin.firstCells, hn', storeCells, hl, goInt]
theorem setAt_self (h : Rel d nt e S g a w) (hr : S.rt = []) {s : Src} {p : PV} (hs : S.at_ s = some p) : Rel d nt e (S.setAt s p) g a w := by
  cases s with
  | var t =>
    refine h.congr (fun u => ?_) (fun _ => rfl) rfl (by simp [St.setAt, St.setT, hr, dropR]) rfl
    show lk ((t, p) :: S.tm) u = lk S.tm u
    rw [lk_cons]
    split
    · rename_i hu; subst hu; exact hs.symm
    · rfl
  | vo i =>
    refine h.congr (fun _ => rfl) (fun _ => rfl) rfl rfl ?_
    exact list_set_self hs
  | cell b o =>
    simp only [St.at_] at hs
    cases hb : S.cont b with
    | none => simp [hb] at hs
    | some cs =>
      simp only [hb] at hs
      have hle := (List.getElem?_eq_some_iff.1 hs).1
      have he : splice cs o [p] = cs := by
        apply List.ext_getElem?
        intro j
        rw [splice1_get hle]
        split
        · rename_i hj; subst hj; exact hs.symm
        · rfl
      have : S.setAt (.cell b o) p = S.setCont b cs := by simp only [St.setAt, hb, he]
      rw [this]
      cases b with
      | loc u =>
        refine h.congr (fun _ => rfl) (fun v => ?_) rfl rfl rfl
        show lk ((u, cs) :: S.lc) v = lk S.lc v
        rw [lk_cons]
        split
        · rename_i hu; subst hu; exact hb.symm
        · rfl
      | obj u => exact h.congr (fun _ => rfl) (fun _ => rfl) (list_set_self hb) rfl rfl
theorem copy_ran {F : Fx} (hT : TabOk P F.T) {t m T : Nat} {x y : Operand} {S' : St} {o : Oper} {args : Array Operand} {tys : Array TypeId} (ht : t < nt) (h : Rel d nt e S g a w) (ho : opCopy F t T x y S = some S') (hm : m = S.mm.length)
    (hop : o.op = .call { callee := .builtin .copy, args := args, argTypes := tys }) (ha : args.toList = [x, y]) (hty : tys.toList = [T, T]) : Ran d nt e m S' g a w t ((execOp a.eval o).run P w) := by
  subst hm
  unfold opCopy at ho
  split at ho
  · rename_i el s U lo hi hK hx
    split at ho
    · rename_i V xs0 ys hs0 hy
      split at ho
      · rename_i xs hc
        obtain ⟨hh, hq⟩ := castL_eq hc
        subst hh
        simp only at hq
        subst hq
        cases hU : Nat.beq U V with
        | false => simp [hU] at ho
        | true =>
          simp only [hU, cond_true, Option.some.injEq] at ho
          have := Nat.eq_of_beq_eq_true hU
          subst this
          subst ho
          obtain ⟨h2, _, hz, i, z, h5, h6, _⟩ := hT.slice _ _ hK
          obtain ⟨xs1, h7, h8, h9, h10⟩ := dst_rep h hx
          rw [hs0] at h7
          simp only [Option.some.injEq, PV.ol.injEq, heq_eq_eq, true_and] at h7
          subst h7
          have hseen := seen_rep h hy
          have hs' : S.noR.at_ s = some (.ol U xs) := by
            cases s with
            | var u => exact hs0
            | cell b o => cases b <;> exact hs0
            | vo i => exact hs0
          have hzl : (ys.take (hi - lo)).length = min ys.length (hi - lo) := by rw [List.length_take, Nat.min_comm]
          generalize hn : min ys.length (hi - lo) = n at hzl ⊢
          have hlen : ∃ q c', a.eval y = .slice q ys.length c' := by
            rcases hseen with ⟨h11, h12⟩ | ⟨A, off, cap, C, E, fr, h11, _⟩
            · exact ⟨none, 0, by rw [h12, h11]; rfl⟩
            · exact ⟨some A, cap, h11⟩
          obtain ⟨q, c', hlen⟩ := hlen
          by_cases hn0 : n = 0
          · subst hn0
            have hz0 : ys.take (hi - lo) = [] := List.eq_nil_of_length_eq_zero hzl
            have hxs : xs.take lo ++ ys.take (hi - lo) ++ xs.drop (lo + 0) = xs := by rw [hz0]; simp
            rw [hxs]
            obtain ⟨p, c, hp⟩ : ∃ p c, a.eval x = .slice p (hi - lo) c := by
              rcases h10 with ⟨h11, ao, cap, h12⟩ | ⟨_, b, len, cap, cap', _, h12⟩
              · exact ⟨ao, cap, by rw [h12, h11, Nat.sub_self]⟩
              · exact ⟨_, _, h12⟩
            have hr := copy_zero (P := P) (w := w) hT (T := T) (el := U) (ty := o.type) hK (p := p) (q := q) (n := hi - lo) (m := ys.length) (c := c) (c' := c') hn
            have hex := execCopy (a := a) (w := w) o hop ha hty (by rw [hp, hlen]; exact hr)
            exact ⟨g, _, w, hex, (setAt_self h.noR rfl hs').setT ht (.i _ _), .refl _ _ _ _⟩
          · rcases h10 with ⟨h11, _⟩ | ⟨hlt, b, len, cap, cap', h11, h12⟩
            · omega
            · rcases hseen with ⟨h13, _⟩ | ⟨A, off, cp, C, E, fr, h13, h14, h15⟩
              · subst h13; simp at hn; omega
              · have hyn : ys ≠ [] := fun hh => by subst hh; simp at hn; omega
                obtain ⟨hA, hC⟩ := h14 hyn
                obtain ⟨news, n1, n2, n3, n4⟩ := list_vals (g := g) hT.enc hz (ys := ys.take (hi - lo)) (C := C) (off := off) (fun i z hi' => h15 i z (by
                  rw [List.getElem?_take] at hi'
                  split at hi'
                  · exact hi'
                  · simp at hi'))
                have hrep := src_key h hs0 h11
                have hrep' := hrep
                obtain ⟨C2, r1, r2, r3, r4, r5, r6⟩ := repO_row hrep
                obtain ⟨vs, q1, q2, q3⟩ := hrep'
                have hfit : lo + (ys.take (hi - lo)).length ≤ xs.length := by rw [hzl]; omega
                have hrow : (lo + (ys.take (hi - lo)).length) * sz U ≤ cap * sz U := Nat.mul_le_mul_right _ (by omega)
                rw [Nat.add_mul] at hrow
                have hld := run_loadCells_list (P := P) (w := w) A news (fun j u hj => by rw [hA, addr_add, cell_of_row w _ _ C E fr hC]; exact n2 j u hj)
                rw [n1, hzl] at hld
                have hst := run_storeCells_at P b (lo * sz U) U news 0 C2 w r1 (by omega) n3
                simp only [Nat.add_zero] at hst
                have hmin : Nat.min ys.length (hi - lo) = n := hn
                have hrun : (Builtin.copy_ #[T, T] o.type #[a.eval x, a.eval y]).run P w = .ok (.int .i64 n) (w.setRow b (C2.toList.take (lo * sz U) ++ news ++ C2.toList.drop (lo * sz U + news.length)).toArray) := by
                  rw [h12, h13]
                  simp [Builtin.copy_, run_underlying h2, sizeOf, typeInfo, h5, h6, Builtin.lenOf, Builtin.firstCells, hmin, hld, hst, goInt]
                have hex := execCopy (a := a) (w := w) o hop ha hty hrun
                generalize hC' : (C2.toList.take (lo * sz U) ++ news ++ C2.toList.drop (lo * sz U + news.length)).toArray = C' at hex
                have hC's : C'.size = C2.size := by
                  rw [← hC']
                  simp only [List.size_toArray, List.length_append, List.length_take, List.length_drop, Array.length_toList]
                  omega
                have hcells := copy_cells (g := g) hT.enc hfit (C := C2) (news := news) r6 (by rw [r5]; exact Nat.mul_le_mul_right _ r3) n1 n4
                rw [hC', hzl] at hcells
                have hnew := setRow_heap w b C2 C' U (0, 0) r1
                generalize hzs : xs.take lo ++ ys.take (hi - lo) ++ xs.drop (lo + n) = zs at hcells ⊢
                have hzsl : zs.length = xs.length := by
                  rw [← hzs]
                  simp only [List.length_append, List.length_take, List.length_drop]
                  omega
                have hy' : RepO g (w.setRow b C') (skey d g s) U zs (.slice (some ⟨b, 0, none⟩) len cap) := by
                  have hcap : cap ≤ maxLen := by
                    rcases q1.2 with ⟨h24, _⟩ | ⟨b', cap', cur, h24, _, _, _, h25, _⟩
                    · simp at h24
                    · simp only [Value.slice.injEq] at h24; obtain ⟨_, _, rfl⟩ := h24; exact h25
                  refine ⟨(C'.toList.take (zs.length * sz U)), ⟨?_, .inr ⟨b, cap, C', by rw [hzsl, ← r2], Nat.zero_le _, hnew, by rw [hzsl]; exact r3, hcap, by rw [hC's, r5], rfl⟩⟩, fun b' hb' => ?_, fun k z hk j c hj => ?_⟩
                  · have hh : C'.toList.length = cap * sz U := by rw [Array.length_toList, hC's, r5]
                    rw [List.length_take, hzsl, hh]
                    exact Nat.min_eq_left (Nat.mul_le_mul_right _ r3)
                  · simp only [Value.ownBlock, Option.some.injEq] at hb'; subst hb'; exact q2 _ rfl
                  · obtain ⟨u', h22, h23⟩ := hcells k z hk j c hj
                    refine ⟨u', ?_, h23⟩
                    have hk' : k < zs.length := (List.getElem?_eq_some_iff.1 hk).1
                    have hj' : j < sz U := by have := (List.getElem?_eq_some_iff.1 hj).1; rw [hT.enc.len] at this; exact this
                    have hlt : k * sz U + j < zs.length * sz U := by
                      have := Nat.mul_le_mul_right (sz U) (show k + 1 ≤ zs.length by omega)
                      rw [Nat.add_mul, Nat.one_mul] at this
                      omega
                    simp only [List.getElem?_toArray]
                    rw [List.getElem?_take, if_pos hlt]
                    simpa using h22
                obtain ⟨h30, h31⟩ := h.noR.listAt rfl hs' h11 rfl hy'
                exact ⟨g, _, _, hex, h30.setT ht (.i _ _), h31⟩
      · simp at ho
    · simp at ho
  · simp at ho
end
end Go.KM
