/- Every operation of the abstract machine. Conditions: none. -/
import Derived.Test.YtdhkmgloghlnnaaGreatDoorKmMm
import Derived.Laws.BytesString
namespace Go.KM
open Go
open Fam (Dn dflt)
open Enc (cells sz mkE glob gany u8)
set_option autoImplicit false
set_option linter.unusedVariables false
set_option linter.unusedSimpArgs false
set_option linter.unusedSectionVars false
section
variable [Enc] {d nt : Nat} {e : Option Nat} {S : St} {g g' : G} {a : Act} {w w' : World} {P : Program}
theorem makeSlice_ran {F : Fx} (hT : TabOk P F.T) {t m T : Nat} {x y : Operand} {S' : St} (ht : t < nt) (h : Rel d nt e S g a w) (ho : opMakeSlice F t T x y S = some (true, S')) {o : Oper} (hop : o.op = .makeSlice T x y) :
    Ran d nt e m S' g a w t ((execOp a.eval o).run P w) := by
  unfold opMakeSlice at ho
  split at ho
  · rename_i el n c hK hn hc
    split at ho
    · rename_i z hz
      split at ho
      · rename_i el0 hy
        simp only [Option.some.injEq, Prod.mk.injEq, Bool.and_eq_true, decide_eq_true_eq, beq_iff_eq, room] at ho
        obtain ⟨⟨⟨h1, h2⟩, h3⟩, rfl⟩ := ho
        subst h2
        obtain ⟨s1, s2, s3, i, zv, s4, s5, s6, s7, s8, s9⟩ := hT.slice _ _ hK
        obtain ⟨i', v, q1, q2, q3, q4, q5, q6, q7, q8⟩ := hT.zr _ _ hz
        rw [s4] at q1
        simp only [Option.some.injEq] at q1
        subst q1
        rw [s8] at q2
        simp only [Option.some.injEq] at q2
        subst q2
        obtain ⟨m1, m2⟩ := hT.enc.mkE _ _ _ hy
        obtain ⟨k1, hk1⟩ := int?_eval h hn
        obtain ⟨k2, hk2⟩ := int?_eval h hc
        have hnn : (n.toNat : Int) = n := Int.toNat_of_nonneg h1
        have hlen : n.toNat ≤ 140737488355328 := by
          have := Nat.le_mul_of_pos_right n.toNat (show 0 < F.T.by_ el by omega)
          omega
        obtain ⟨w', r1, r2, r3⟩ := run_make_full (P := P) w 0 T el i zv (sz el) s1 s4 s8 s5 k1 k2 n.toNat (by rw [s6, Nat.mul_comm]; omega) (by unfold maxLen; omega) (Nat.zero_le _)
        rw [hnn] at r1
        have hk : Keep (fun _ _ => False) g w (g.new w.heap.size (.tm d t 0)) w' := by
          refine ⟨⟨fun _ _ h => h, Nat.le_refl _, fun _ _ => rfl, fun _ _ _ => rfl, rfl, fun _ _ => rfl⟩, rfl, fun b k hb _ => ?_⟩
          have hlt := h.wf.own b k hb
          have hne : b ≠ w.heap.size := by omega
          exact ⟨by simp only [G.new, if_neg hne]; exact hb, r3.block b hlt (by simp)⟩
        have hsz : w.heap.size < w'.heap.size := by
          rcases r2.2 with ⟨hh, _⟩ | ⟨b, cap, cur, hh, _, h5, _⟩
          · simp at hh
          · simp only [Value.slice.injEq, Option.some.injEq, Addr.mk.injEq, and_true] at hh
            obtain ⟨rfl, _, _⟩ := hh
            exact (Array.getElem?_eq_some_iff.1 h5).1
        have hwf : WF (g.new w.heap.size (.tm d t 0)) w' := by
          refine ⟨gl_mono (g := g) (g' := g.new w.heap.size (.tm d t 0)) ⟨fun _ _ h => h, Nat.le_refl _, fun _ _ => rfl, fun _ _ _ => rfl, rfl, fun _ _ => rfl⟩ h.wf.gl, fun b k hb => ?_, fun b C hf => ?_, fun b b' j hb => ?_, fun i hi => ?_, h.wf.inj, fun i hi => by
            obtain ⟨k0, k1⟩ := h.wf.oe_row (RowTy.of_same fun k hk => r3.block k hk (by simp)) i hi
            have hne : g.oa i ≠ w.heap.size := by have := h.wf.ol i hi; omega
            exact ⟨by simp only [G.new, if_neg hne]; exact k0, k1⟩⟩
          · simp only [G.new] at hb
            split at hb
            · rename_i hh; omega
            · have := h.wf.own b k hb; omega
          · obtain ⟨h1, h2⟩ := h.wf.fz b C hf
            have hlt := (Array.getElem?_eq_some_iff.1 h2).1
            have hne : b ≠ w.heap.size := by omega
            exact ⟨by simp only [G.new, if_neg hne]; exact h1, by rw [r3.block b hlt (by simp)]; exact h2⟩
          · simp only [G.new] at hb
            split at hb
            · simp at hb
            · have := h.wf.ob b b' j hb; omega
          · have := h.wf.ol i hi; simp only [G.new]; omega
        have h1 : Rel d nt e S (g.new w.heap.size (.tm d t 0)) a w' := h.keep hk (fun _ => rfl) (fun _ _ hx => hx.elim) (.inr fun b k hb hc => by
          have := hk.own b k hb id
          exact ⟨this.2, k, this.1, hc⟩) hwf
        have hrun : (execOp a.eval o).run P w = .ok (.value (.slice (some ⟨w.heap.size, 0, none⟩) n.toNat n.toNat)) w' := by simp [execOp, hop, hk1, hk2, r1]
        refine ⟨_, _, w', hrun, h1.setT ht (show RepO _ _ _ el _ _ from ⟨_, by rw [List.length_replicate]; exact r2, fun b hb => ?_, fun k x hk' j c hj => ?_⟩), ⟨hk.gr, fun b k hb _ => hk.own b k hb id, r3.size, fun i h1 h2 => by simp only [G.new] at h2; omega, ⟨r3.os, r3.tape, r3.output⟩⟩⟩
        · simp only [Value.ownBlock, Option.some.injEq] at hb; subst hb; simp [G.new]
        · rw [List.getElem?_replicate] at hk'
          split at hk'
          · rename_i hkn
            simp only [Option.some.injEq] at hk'
            subst hk'
            obtain ⟨u, h9, h10⟩ := m2 (g.new w.heap.size (.tm d t 0)) zv.cells 0 (q6 _) j c hj
            have hj' : j < sz el := by have := (List.getElem?_eq_some_iff.1 hj).1; rw [hT.enc.len] at this; exact this
            refine ⟨u, ?_, h10⟩
            have := zeros_get (z := zv.cells) (n := n.toNat * sz el) (k := k) (j := j) (by omega) (by omega) (by
              rw [s9]
              have := Nat.mul_le_mul_right (sz el) (show k + 1 ≤ n.toNat by omega)
              rw [Nat.add_mul, Nat.one_mul] at this; omega)
            rw [s9] at this
            rw [Array.toArray_toList]
            show ((Array.range (n.toNat * sz el)).map (zv.cells[· % zv.cells.size]!))[k * sz el + j]? = some u
            rw [s9, this]
            simpa using h9
          · simp at hk'
      · simp at ho
    · simp at ho
  · simp at ho
theorem offs_set : ∀ (vs : List PV) (i : Nat) {p q : PV}, vs[i]? = some p → q.ks.length = p.ks.length → ∀ k, offs (vs.set i q) k = offs vs k := by
  intro vs
  induction vs with
  | nil => intro i p q hi; simp at hi
  | cons x r ih =>
    intro i p q hi hq k
    cases i with
    | zero =>
      simp only [List.getElem?_cons_zero, Option.some.injEq] at hi
      subst hi
      cases k with
      | zero => rfl
      | succ k => simp only [List.set_cons_zero, offs, hq]
    | succ i =>
      simp only [List.getElem?_cons_succ] at hi
      cases k with
      | zero => rfl
      | succ k => simp only [List.set_cons_succ, offs, ih i hi hq k]
theorem field_ran {F : Fx} (hT : TabOk P F.T) {t m ty f : Nat} {x : Operand} {S' : St} (ht : t < nt) (h : Rel d nt e S g a w) (ho : opField F t ty x f S = some S') {o : Oper} (hop : o.op = .field ty x f) :
    Ran d nt e m S' g a w t ((execOp a.eval o).run P w) := by
  unfold opField at ho
  split at ho
  · rename_i of n U u hoff hft
    split at ho
    · rename_i cs hx
      split at ho
      · rename_i c hc hk
        cases hp : c.plain with
        | false => simp [hp] at ho
        | true =>
          simp only [hp, cond_true, Option.some.injEq] at ho
          subst ho
          obtain ⟨hu, A, hA, hs, hr⟩ := h.tm u _ hx
          have hA' : a.eval (.tmp u) = .agg A := hA
          obtain ⟨v, h1, h2⟩ := hr _ _ hc
          obtain ⟨fs, fd, i, q1, q2, q3, q4, q5, q6⟩ := hT.off _ _ _ _ hoff
          obtain ⟨fs', fd', q7, q8, q9⟩ := hT.ft _ _ _ hft
          rw [q1] at q7
          simp only [Option.some.injEq, TypeDesc.struct.injEq] at q7
          subst q7
          rw [q2] at q8
          obtain rfl := Option.some.inj q8
          have hag : (isAgg fd.type).run P w = .ok false w := by rw [q9]; exact isAgg_false hT hk
          have hrun : (execOp a.eval o).run P w = .ok (.value v) w := by
            simp [execOp, hop, hA', Instr.field, sem_underlying q1, q2, asAgg, Go.part, hag, q3, h1, Result.andThen]
          exact ran_val h ht hrun (plain_T hp ((plain_key hp).1 h2) _)
      · simp at ho
    · simp at ho
  · simp at ho
theorem extract_ran {t m i : Nat} {x : Operand} {S' : St} (ht : t < nt) (h : Rel d nt e S g a w) (ho : opExtract t x i S = some S') {o : Oper} (hop : o.op = .extract x i) :
    Ran d nt e m S' g a w t ((execOp a.eval o).run P w) := by
  unfold opExtract at ho
  split at ho
  · rename_i vs u hx
    obtain ⟨hu, A, hA, hs, hr⟩ := h.tm u _ hx
    have hA' : a.eval (.tmp u) = .tuple A := hA
    split at ho
    · rename_i p hp
      obtain ⟨v, h1, h2⟩ := hr i p hp
      have hrun : (execOp a.eval o).run P w = .ok (.value v) w := by
        simp [execOp, hop, hA', Instr.extract, h1]
      cases hd : p.dup with
      | true =>
        simp only [hd, cond_true, Option.some.injEq] at ho
        subst ho
        refine ran_val h ht hrun ?_
        cases p with
        | tup _ => simp [PV.dup, PV.plain] at hd
        | st cs =>
          obtain ⟨B, h3, h4, h5⟩ := h2
          refine ⟨B, h3, h4, fun j c hj => ?_⟩
          obtain ⟨z, h6, h7⟩ := h5 j c hj
          exact ⟨z, by simpa using h6, (plain_key (all_plain hd hj)).2 ((plain_key (all_plain hd hj)).1 h7)⟩
        | gone => trivial
        | _ => exact dup_V (g := g) (v := v) (w := w) (κ := Key.tm d u (offs vs i + 0)) (κ' := Key.tm d t 0) hd h2
      | false =>
        simp only [hd, cond_false] at ho
        cases hg0 : (p.okE && !Nat.beq u t) with
        | false => simp [hg0] at ho
        | true =>
          simp only [hg0, cond_true, Option.some.injEq] at ho
          simp only [Bool.and_eq_true, Bool.not_eq_true'] at hg0
          obtain ⟨hE, hut⟩ := hg0
          have hut : u ≠ t := beq_false hut
          subst ho
          have hks : p.goneAs.ks.length = p.ks.length := by cases p <;> simp [PV.goneAs, PV.ks]
          have hgk : ∀ (j : Nat) (c : PV), p.goneAs.ks[j]? = some c → c = .gone := by
            intro j c hj
            cases p with
            | st cs =>
              simp only [PV.goneAs, PV.ks, List.getElem?_map, Option.map_eq_some_iff] at hj
              obtain ⟨_, _, rfl⟩ := hj
              rfl
            | _ =>
              cases j with
              | zero => simp only [PV.goneAs, PV.ks, List.getElem?_cons_zero, Option.some.injEq] at hj; exact hj.symm
              | succ j => simp [PV.goneAs, PV.ks] at hj
          have hof : ∀ k, offs (vs.set i p.goneAs) k = offs vs k := offs_set vs i hp hks
          have hi := (List.getElem?_eq_some_iff.1 hp).1
          have hset : (vs.set i p.goneAs)[i]? = some p.goneAs := by rw [List.getElem?_set_self hi]
          have hg : Rel d nt e (S.setT u (.tup (vs.set i p.goneAs))) g a w := h.setT' hu rfl rfl (fun _ _ => rfl) ⟨A, hA, by rw [List.length_set]; exact hs, fun j q hj => by
            rw [hof]
            rw [List.getElem?_set] at hj
            split at hj
            · rename_i hij
              subst hij
              simp only [hi, if_true, Option.some.injEq] at hj
              subst hj
              refine ⟨v, h1, ?_⟩
              cases p with
              | st cs =>
                obtain ⟨B, h3, h4, h5⟩ := h2
                refine ⟨B, h3, by simpa using h4, fun j c hj => ?_⟩
                simp only [List.getElem?_map, Option.map_eq_some_iff] at hj
                obtain ⟨c0, hj, rfl⟩ := hj
                obtain ⟨z, h6, _⟩ := h5 j c0 hj
                exact ⟨z, h6, trivial⟩
              | _ => trivial
            · exact hr j q hj⟩
          obtain ⟨hus, hback⟩ := repE_split h2
          obtain ⟨g', h3, h4, h5, h6, h7, h8, h9⟩ := hg.moveCells (m := m) p.ks (usE p v) (fun j => .tm d u (offs vs i + j)) (fun j => .tm d t j) (fun _ => Nat.le_refl d) (fun _ => Nat.le_refl d)
            (fun j hj => ⟨fun t' p' j' hk hl => by
              simp only [Key.tm.injEq, true_and] at hk
              obtain ⟨rfl, rfl⟩ := hk
              have hl : lk ((u, PV.tup (vs.set i p.goneAs)) :: S.tm) u = some p' := hl
              rw [lk_cons, if_pos rfl] at hl
              simp only [Option.some.injEq] at hl
              subst hl
              obtain ⟨c, hc⟩ : ∃ c, p.goneAs.ks[j]? = some c := ⟨_, List.getElem?_eq_getElem (by rw [hks]; exact hj)⟩
              have h10 := keys_at _ i hset hc
              rw [hof] at h10
              have h11 := hgk j c hc
              simp only [olT, PV.keys, h10, h11]
              rfl, fun _ _ _ _ hk => by simp at hk, fun _ _ _ _ hk => by simp at hk, fun _ _ hk => by simp at hk⟩)
            (fun x y hxy => by simp only [Key.tm.injEq, true_and] at hxy; omega) (fun x y hxy => by simp only [Key.tm.injEq, true_and] at hxy; exact hut hxy.1) hus
          refine ⟨g', v, w, hrun, h3.setT ht ?_, h4⟩
          have h10 := hback g' w (Key.tm d t) h9.gr (.inr h7) h8
          cases p with
          | tup _ => simp [PV.okE] at hE
          | _ => exact h10
    · simp at ho
  · simp at ho
theorem ifc_ran {F : Fx} (hT : TabOk P F.T) {t m ty yt : Nat} {op : BinOp} {x y : Operand} {b : Bool} {r : PV} (ht : t < nt) (h : Rel d nt e S g a w) (hc : nilC y = true) (hx : S.opv x = some (.ifc b)) (hK : F.T.K ty = .iface)
    (ho : eqOp op b = some (true, r)) {o : Oper} (hop : o.op = .binOp op ty x y yt) : RanQ d nt e m (S.setT t r) g a w t ((execOp a.eval o).run P w) := by
  have hy : y = .const .nilIface := by
    unfold nilC at hc
    split at hc
    · rfl
    · simp at hc
  subst hy
  obtain ⟨ms, hms⟩ := hT.iface _ hK
  have hv := opv_dup h hx rfl (fun _ => .obj)
  have hg : ∀ v, (eqGuard op ty x (.const .nilIface) v .nilIface).run P w = .ok () w := by
    intro v
    unfold eqGuard
    cases op <;> first | rfl | (cases v <;> simp)
  have heq : (Op.equal ty (a.eval x) .nilIface).run P w = .ok b w := by
    show (Op.equalIn (9999 + 1) ty _ _).run P w = _
    unfold Op.equalIn
    rw [Sem.run_bind, sem_underlying hms]
    generalize a.eval x = v at hv ⊢
    cases hv <;> rfl
  have hr : ∃ v, (execOp a.eval o).run P w = .ok (.value v) w ∧ RepF g r v ∧ r.plain = true := by
    have hev : a.eval (.const .nilIface) = .nilIface := rfl
    cases op <;> simp only [eqOp, Option.some.injEq, Prod.mk.injEq, true_and, reduceCtorEq] at ho
    · subst ho
      refine ⟨.bool b, ?_, .b _, rfl⟩
      have : (binOp .eql ty (a.eval x) .nilIface).run P w = .ok (.bool b) w := by
        generalize a.eval x = v at hv heq ⊢
        cases hv <;> simp [binOp, heq]
      simp [execOp, hop, hev, hg, this]
    · subst ho
      refine ⟨.bool (!b), ?_, .b _, rfl⟩
      have : (binOp .neq ty (a.eval x) .nilIface).run P w = .ok (.bool (!b)) w := by
        generalize a.eval x = v at hv heq ⊢
        cases hv <;> simp [binOp, heq]
      simp [execOp, hop, hev, hg, this]
  obtain ⟨v, h1, h2, h3⟩ := hr
  exact ran_valQ h ht h1 (plain_T h3 h2 _)
theorem strOfBytes_foldl (ns : List Int) : ns.foldl (fun r n => r.push (UInt8.ofNat n.toNat)) ByteArray.empty = strOfBytes ns := by
  have key : ∀ (ns : List Int) (s : ByteArray), (ns.foldl (fun r n => r.push (UInt8.ofNat n.toNat)) s).data.toList = s.data.toList ++ ns.map fun n => UInt8.ofNat n.toNat := by
    intro ns
    induction ns with
    | nil => intro s; simp
    | cons n ns ih => intro s; simp only [List.foldl_cons, ih, List.map_cons]; simp [ByteArray.push]
  have h1 := key ns ByteArray.empty
  have h2 : ∀ a b : ByteArray, a.data.toList = b.data.toList → a = b := fun a b h => by
    cases a; cases b; simp only at h; congr 1; exact Array.ext' h
  exact h2 _ _ (by rw [h1]; simp [strOfBytes])
theorem bytes_ran {F : Fx} (hT : TabOk P F.T) {t m src dst : Nat} {x : Operand} {S' : St} (ht : t < nt) (h : Rel d nt e S g a w) (ho : opBytes F t src dst x S = some S') {o : Oper} (hop : o.op = .convert src dst x) :
    Ran d nt e m S' g a w t ((execOp a.eval o).run P w) := by
  unfold opBytes at ho
  split at ho
  case h_2 => simp at ho
  rename_i el hs hd
  split at ho
  case h_2 => simp at ho
  rename_i f ys hel hu hseen
  simp only [Option.some.injEq] at ho
  subst ho
  obtain ⟨h1, h2⟩ := hT.enc.u8 el f hu
  have hconv : ∀ (q : Option Addr) (l c : Nat), (execOp a.eval o).run P w = ((convert src dst (a.eval x)).run P w).andThen fun v w => .ok (.value v) w := fun _ _ _ => by simp [execOp, hop]
  rcases seen_rep h hseen with ⟨rfl, h3⟩ | ⟨A, off, cap, C, E, fr, h3, h4, h5⟩
  · refine ran_val h ht (v := .string .empty) ?_ (.s _)
    rw [hconv none 0 0, h3, run_convert_bytes_string w src dst el none 0 0 (hT.slice _ _ hs).1 (hT.int _ _ hel) (hT.str _ hd)]
    rfl
  · refine ran_val h ht (v := .string (strOfBytes (ys.map f))) ?_ (.s _)
    rw [hconv none 0 0, h3, run_convert_bytes_string w src dst el _ _ _ (hT.slice _ _ hs).1 (hT.int _ _ hel) (hT.str _ hd)]
    have hl := run_loadCells_list (P := P) w A ((ys.map f).map (Value.int .u8)) (fun j v hj => by
      simp only [List.getElem?_map, Option.map_eq_some_iff] at hj
      obtain ⟨_, ⟨y, hy, rfl⟩, rfl⟩ := hj
      obtain ⟨hA, hh⟩ := h4 fun hh => by subst hh; simp at hy
      rw [hA, cell_at hh]
      obtain ⟨u, h6, h7⟩ := h5 j y hy 0 (.i .u8 (f y)) (by rw [h2]; rfl)
      rw [h1, Nat.mul_one, Nat.add_zero] at h6
      cases h7
      exact h6)
    rw [run_bytesToString w A ys.length cap (ys.map f) (by simpa using hl), strOfBytes_foldl]
    rfl
theorem opFrz_ran {t m : Nat} {x : Operand} {S' : St} (ht : t < nt) (h : Rel d nt e S g a w) (ho : opFrz t x S = some S') {r : Result Next} (hr : r = .ok (.value (a.eval x)) w) : RanQ d nt e m S' g a w t r := by
  unfold opFrz at ho
  split at ho
  · rename_i p hx
    cases hd : p.dup with
    | true =>
      simp only [hd, cond_true, Option.some.injEq] at ho
      subst ho
      exact ran_valQ h ht hr (opv_dup h hx hd _)
    | false =>
      simp only [hd, cond_false] at ho
      split at ho
      · rename_i u
        cases hk : p.okZ with
        | false => simp [hk] at ho
        | true =>
          simp only [hk, cond_true, Option.some.injEq] at ho
          subst ho
          obtain ⟨g', h1, h2, _⟩ := frzO_rep (m := m) h (.tmp u)
          have hl : lk S.tm u = some p := hx
          have he : frzO S (.tmp u) = S.noR.setT u p.frz := by simp only [frzO, hl, hd, hk, Bool.not_true, Bool.or_self, cond_false]
          have hl' : lk (frzO S (.tmp u)).tm u = some p.frz := by rw [he]; show lk ((u, p.frz) :: S.noR.tm) u = _; rw [lk_cons, if_pos rfl]
          obtain ⟨_, h3⟩ := h1.tm u _ hl'
          have hdup : p.frz.dup = true := by
            cases p with
            | ol T xs => rfl
            | st cs =>
              simp only [PV.frz, PV.dup, List.all_map, List.all_eq_true]
              intro c hc
              exact fz_plain (List.all_eq_true.1 (show cs.all PV.okf = true from hk) c hc)
            | _ => simp_all [PV.okZ]
          exact ⟨g', _, hr, h1.setT ht (dup_T hdup h3), h2⟩
      · simp at ho
  · simp at ho
theorem capsOf_rep : ∀ (l : List Operand) {caps : List (Nat × Nat)}, Rel d nt e S g a w → capsOf S l = some caps → l.map a.eval = caps.map (fun x => Value.pointer (some ⟨g.oa x.1, x.2, none⟩)) ∧ ∀ x ∈ caps, x.1 < g.no := by
  intro l
  induction l with
  | nil => intro caps h hc; simp only [capsOf, Option.some.injEq] at hc; subst hc; exact ⟨rfl, fun x hx => by simp at hx⟩
  | cons o r ih =>
    intro caps h hc
    simp only [capsOf] at hc
    split at hc
    · rename_i i off l' ho hr
      simp only [Option.some.injEq] at hc
      subst hc
      obtain ⟨h1, h2⟩ := ih h hr
      have h3 : RepF g (.ad (.obj i) off) (a.eval o) := opv_dup h ho rfl (fun _ => .obj)
      generalize hv : a.eval o = v at h3
      cases h3 with
      | ad _ _ h4 =>
        refine ⟨by rw [List.map_cons, List.map_cons, hv, h1], fun x hx => ?_⟩
        rcases List.mem_cons.1 hx with rfl | hx
        · exact h4
        · exact h2 x hx
    · simp at hc
theorem stp1_ran {F : Fx} (hT : TabOk P F.T) (hF : ∀ t z, F.T.flat t = some z → FlatOk P t z) (he : F.e = e.isNone) {t : Nat} {S' : St} {o : Oper} (ht : t < nt) (h : Rel d nt e S g a w) (ho : stp1 F o.op t S = some (true, S')) :
    Ran d nt e S.mm.length S' g a w t ((execOp a.eval o).run P w) := by
  have yes_ : ∀ {X : Option St}, yes t X = some (true, S') → X = some S' := fun {X} hX => by
    cases X with
    | none => simp [yes] at hX
    | some y => simpa [yes] using hX
  unfold stp1 at ho
  split at ho
  case h_1 x hop =>
    cases hz : isFrz (F.md t) with
    | true => rw [hz] at ho; exact (opFrz_ran ht h (yes_ ho) (by simp [execOp, hop])).ran
    | false => rw [hz] at ho; exact (opMove_ran ht h (yes_ ho) hop).ran
  case h_2 x hop =>
    cases hz : isFrz (F.md t) with
    | true => rw [hz] at ho; exact (opFrz_ran ht h (yes_ ho) (by simp [execOp, hop])).ran
    | false => rw [hz] at ho; exact opAssign_ran ht h (yes_ ho) hop
  case h_3 c x y hop => exact opPick_ran ht h (yes_ ho) hop
  case h_4 T x hop => exact (load_ran hT ht h (yes_ ho) hop).ran
  case h_5 T hop => exact alloc_ran hT he ht h (yes_ ho) hop
  case h_6 T x hop => exact box_ran he ht h (yes_ ho) hop
  case h_7 T ps hop => exact build_ran hT ht h (yes_ ho) hop
  case h_8 T n ps hop => exact buildSlice_ran hT ht h (yes_ ho) hop
  case h_9 T x f hop => exact (fieldAddr_ran hT ht h (yes_ ho) hop).ran
  case h_10 T x i hop => exact (indexAddr_ran hT ht h ho hop).ran
  case h_11 T x i hop => exact index_ran hT ht h ho hop
  case h_12 T x lo hi hop => exact (sliceD_ran hT ht h ho hop).ran
  case h_13 op T x y yt hop =>
    split at ho
    · rename_i b hc hx
      split at ho
      case h_2 => simp at ho
      rename_i hK
      simp only [Option.map_eq_some_iff, Prod.mk.injEq, Prod.exists] at ho
      obtain ⟨c, r, hb, rfl, rfl⟩ := ho
      exact (ifc_ran hT ht h hc hx hK hb hop).ran
    · split at ho
      · rename_i p q hx hy
        simp only [Option.map_eq_some_iff, Prod.mk.injEq, Prod.exists] at ho
        obtain ⟨c, r, hb, rfl, rfl⟩ := ho
        exact (bin_ran hT hF ht h hx hy hb hop).ran
      · simp at ho
  case h_14 op T x hop =>
    split at ho
    · rename_i p hx
      simp only [Option.map_eq_some_iff, Prod.mk.injEq, true_and] at ho
      obtain ⟨r, hb, rfl⟩ := ho
      exact un_ran ht h hx hb hop
    · simp at ho
  case h_15 src dst x hop =>
    split at ho
    · exact bytes_ran hT ht h (yes_ ho) hop
    · exact convert_ran hT ht h (yes_ ho) hop
  case h_16 T n c hop => exact makeSlice_ran hT ht h ho hop
  case h_17 x hop =>
    split at ho
    · simp at ho
    · split at ho
      · rename_i b off hx
        simp only [Option.some.injEq, Prod.mk.injEq, true_and] at ho
        subst ho
        refine ran_val h ht (v := a.eval x) ?_ (opv_dup h hx (by cases b <;> rfl) _)
        rw [eval_ad h hx]
        simp [execOp, hop, eval_ad h hx]
      · rename_i U y off hx
        simp only [Option.some.injEq, Prod.mk.injEq, true_and] at ho
        subst ho
        obtain ⟨bk, o', C, h1, _⟩ := eval_fa h hx
        refine ran_val h ht (v := a.eval x) ?_ (opv_dup h hx rfl _)
        rw [h1]
        simp [execOp, hop, h1]
      · rename_i U y hx
        simp only [Option.some.injEq, Prod.mk.injEq] at ho
        obtain ⟨hy, rfl⟩ := ho
        cases y with
        | none => simp at hy
        | some y =>
          have h5 : RepF g (.fp U (some y)) (a.eval x) := opv_dup h hx rfl (fun _ => .obj)
          have h6 : RepF g (.fa U y 0) (a.eval x) := by
            generalize a.eval x = v at h5
            cases h5 with
            | fpS _ _ _ h6 => exact h6
          obtain ⟨bk, o', C, h1, _⟩ := repF_fa h6
          refine ran_val h ht (v := a.eval x) ?_ h6
          rw [h1]
          simp [execOp, hop, h1]
      · simp at ho
  case h_18 x i hop => exact extract_ran ht h (yes_ ho) hop
  case h_19 args tys hop =>
    split at ho
    · rename_i x T ha hty
      exact (len_ran hT ht h (yes_ ho) hop ha hty).ran
    · simp at ho
  case h_20 args tys hop =>
    split at ho
    · rename_i s x T U ha hty
      cases hTU : Nat.beq T U with
      | false =>
        simp only [hTU, cond_false] at ho
        exact appendS_ran hT ht h ho hop ha hty
      | true =>
        simp only [hTU, cond_true] at ho
        have := Nat.eq_of_beq_eq_true hTU
        subst this
        exact append_ran hT ht h ho hop ha hty
    · simp at ho
  case h_21 args tys hop =>
    split at ho
    · rename_i x y T U ha hty
      cases hTU : Nat.beq T U with
      | false => simp [hTU] at ho
      | true =>
        simp only [hTU, cond_true] at ho
        have := Nat.eq_of_beq_eq_true hTU
        subst this
        exact copy_ran hT ht h (yes_ ho) rfl hop ha hty
    · simp at ho
  case h_22 f first captured hop =>
    split at ho
    · rename_i caps hfi hcs
      simp only [Option.some.injEq, Prod.mk.injEq, true_and] at ho
      subst ho
      obtain ⟨h1, h2⟩ := capsOf_rep captured.toList h hcs
      have hrun : (execOp a.eval o).run P w = .ok (.value (.func (.func f) #[] (caps.map fun x => Value.pointer (some ⟨g.oa x.1, x.2, none⟩)).toArray)) w := by
        have e1 : first.map a.eval = #[] := by
          have : first = #[] := by rw [← Array.toArray_toList (xs := first), hfi]
          rw [this]; simp
        have e2 : captured.map a.eval = (caps.map fun x => Value.pointer (some ⟨g.oa x.1, x.2, none⟩)).toArray := by
          rw [← h1, ← Array.toList_map, Array.toArray_toList]
        simp only [execOp, hop, Instr.makeFunc, e1, e2]
        rfl
      exact ran_val h ht hrun (.clo f caps h2)
    · simp at ho
  case h_23 T hop => exact makeMap_ran hT ht h (yes_ ho) hop
  case h_24 T m k ok hop => exact lookup_ran hT ht h (yes_ ho) hop
  case h_25 T x f hop => exact field_ran hT ht h (yes_ ho) hop
  case h_26 => simp at ho
end
end Go.KM
