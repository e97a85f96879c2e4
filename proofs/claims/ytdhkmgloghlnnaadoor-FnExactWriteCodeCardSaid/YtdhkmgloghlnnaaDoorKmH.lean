/- Stores and new variables. Conditions: none. -/
import Derived.Test.YtdhkmgloghlnnaaDoorKmG
import Derived.Laws.CopyRow
import Derived.Laws.MakeOwn
import Derived.Laws.OwnMore
namespace Go.KM
open Go
open Fam (Dn dflt)
open Enc (cells sz mkE glob gany u8)
set_option autoImplicit false
set_option linter.unusedVariables false
set_option linter.unusedSimpArgs false
set_option linter.unusedSectionVars false
section
variable [Enc] {d nt : Nat} {e : Option Nat} {S : St} {g g' : G} {a : Act} {w w' : World} {P : Program}
theorem repF_one {p : PV} {v : Value} (h : RepF g p v) : v.oneCell' = true := by
  cases h with
  | fpS T x v h => obtain ⟨_, _, _, h1, _⟩ := repF_fa h; rw [h1]; rfl
  | foS T xs v h => cases h <;> rfl
  | _ => rfl
theorem okc_one {c : PV} (hc : c.okc = true) {κ : Key} {v : Value} (h : RepC g w κ c v) : v.oneCell' = true := by
  cases c with
  | ol T xs =>
    obtain ⟨vs, h1, _⟩ := h
    rcases h1.2 with ⟨rfl, _⟩ | ⟨b, cap, cur, rfl, _⟩ <;> rfl
  | mp U es => obtain ⟨r, ms, ck, rfl, _⟩ := h; rfl
  | _ => first | exact repF_one h | simp [PV.okc, PV.plain, isOl, isLs] at hc
theorem one_cells {v : Value} (h : v.oneCell' = true) : v.cells = #[v] := by cases v <;> simp_all [Value.oneCell', Value.cells]
theorem repT_single {κ : Nat → Key} {p : PV} {v : Value} (hp : p.okc = true) (h : RepT g w κ p v) : RepC g w (κ 0) p v := by
  cases p with
  | ad b off => cases b with
    | loc t => simp [PV.okc, PV.plain, isOl, isLs] at hp
    | obj i => exact h
  | _ => first | exact h | simp [PV.okc, PV.plain, isOl, isLs] at hp
theorem cs_single {p : PV} (hp : p.cs.all PV.okc = true) : (∃ cs, p = .st cs) ∨ (p.cs = [p] ∧ p.okc = true) := by
  cases p with
  | st cs => exact .inl ⟨cs, rfl⟩
  | _ => right; refine ⟨rfl, ?_⟩; simpa [PV.cs] using hp
theorem repT_cells {κ : Nat → Key} {p : PV} {v : Value} (h : RepT g w κ p v) (hc : p.cs.all PV.okc = true) :
    v.cells.size = p.cs.length ∧ ∀ j c, p.cs[j]? = some c → ∃ u, v.cells[j]? = some u ∧ RepC g w (κ j) c u ∧ u.oneCell' = true := by
  rcases cs_single hc with ⟨cs, rfl⟩ | ⟨h0, hp⟩
  · obtain ⟨A, rfl, h2, h3⟩ := h
    refine ⟨h2, fun j c hj => ?_⟩
    obtain ⟨u, h4, h5⟩ := h3 j c hj
    simp only [PV.cs, List.all_eq_true] at hc
    exact ⟨u, h4, h5, okc_one (hc c (List.mem_of_getElem? hj)) h5⟩
  · have h1 := repT_single hp h
    have h2 := okc_one hp h1
    rw [one_cells h2, h0]
    refine ⟨rfl, fun j c hj => ?_⟩
    cases j with
    | zero => simp only [List.getElem?_cons_zero, Option.some.injEq] at hj; subst hj; exact ⟨v, rfl, h1, h2⟩
    | succ j => simp at hj
theorem takeO_rep (h : Rel d nt e S g a w) {x : Operand} {p : PV} {S1 : St} (ho : takeO S x = some (p, S1)) {t : Nat} (hx : notT t x = true) :
    ∃ κ : Nat → Key, Rel d nt e S1 g a w ∧ RepT g w κ p (a.eval x) ∧ (∀ m g j, Mine d m g w (κ j)) ∧ (∀ g j, Free d S1 g (κ j)) ∧ (∀ i j, κ i = κ j → i = j) ∧ (∀ i j, κ i ≠ Key.tm d t j) ∧
      (∀ i b j g, κ i ≠ ckey d g b j) ∧ S1.mm = S.mm ∧ S1.lc = S.lc ∧ (∀ b, S1.cont b = S.cont b) := by
  unfold takeO at ho
  split at ho
  · rename_i q hq
    cases hd : q.dup with
    | true =>
      simp only [hd, cond_true, Option.some.injEq, Prod.mk.injEq] at ho
      obtain ⟨rfl, rfl⟩ := ho
      refine ⟨fun j => Key.ar d j, h, opv_dup h hq hd _, fun m g j => Nat.le_refl d, fun g j => ⟨fun _ _ _ hk => by simp at hk, fun _ _ _ _ hk => by simp at hk, fun _ _ _ _ hk => by simp at hk, fun _ _ hk => by simp at hk⟩, fun i j hij => by simpa using hij, fun i j => by simp,
        fun i b j g => by cases b <;> simp [ckey], rfl, rfl, fun _ => rfl⟩
    | false =>
      simp only [hd, cond_false] at ho
      split at ho
      · rename_i u
        cases hk : q.okT with
        | false => simp [hk] at ho
        | true =>
          simp only [hk, cond_true, Option.some.injEq, Prod.mk.injEq] at ho
          obtain ⟨rfl, rfl⟩ := ho
          have hu : u ≠ t := by simp only [notT, Bool.not_eq_true'] at hx; exact beq_false hx
          refine ⟨Key.tm d u, h.gone (h.tm u _ hq).1, (h.tm u _ hq).2, fun m g j => Nat.le_refl d, fun g j => free_gone, fun i j hij => by simpa using hij, fun i j => by simp [hu],
            fun i b j g => by cases b <;> simp [ckey], rfl, rfl, fun b => by cases b <;> rfl⟩
      · simp at ho
  · simp at ho
theorem storeVar_run {T : Tab} (hT : TabOk P T) {ty b o : Nat} {C : Array Value} {E : TypeId} {v : Value} (hb : w.heap[b]? = some (.cells C E (0, 0))) (hz : 0 < T.cz ty) (hl : v.cells.size = T.cz ty)
    (hle : o + v.cells.size ≤ C.size) (h1 : ∀ u ∈ v.cells.toList, u.oneCell' = true) :
    (Instr.storeAt ty (.pointer (some ⟨b, o, none⟩)) v).run P w = .ok () (w.setRow b (C.toList.take o ++ v.cells.toList ++ C.toList.drop (o + v.cells.size)).toArray) := by
  obtain ⟨i, h2, h3⟩ := hT.cz ty hz
  have h4 := run_storeCells_at (P := P) b o E v.cells.toList 0 C w hb (by simpa using hle) h1
  simp only [Nat.add_zero, Array.length_toList] at h4
  simp [Instr.storeAt, Instr.sureAddr, storeVar, sizeOf, typeInfo, h2, h3, hl, h4]
theorem heap_setRow_size (w : World) (b : Nat) (cs : Array Value) : (w.setRow b cs).heap.size = w.heap.size := by simp [World.setRow]
theorem row_splice {C A : Array Value} {o : Nat} (h : o + A.size ≤ C.size) (j : Nat) :
    ((C.toList.take o ++ A.toList ++ C.toList.drop (o + A.size)).toArray)[j]? = if o ≤ j ∧ j < o + A.size then A[j - o]? else C[j]? := by
  have hs : C.size = C.toList.length := by simp
  have ha : A.size = A.toList.length := by simp
  simp only [List.getElem?_toArray]
  by_cases h1 : j < o
  · rw [List.append_assoc, List.getElem?_append_left (by simp; omega), List.getElem?_take]
    have : ¬ (o ≤ j ∧ j < o + A.size) := by omega
    simp [h1, this]
  · by_cases h2 : j < o + A.size
    · rw [List.append_assoc, List.getElem?_append_right (by simp; omega), List.getElem?_append_left (by simp; omega)]
      have h3 : (C.toList.take o).length = o := by simp; omega
      have : o ≤ j ∧ j < o + A.size := by omega
      rw [if_pos this, h3]; simp
    · rw [List.getElem?_append_right (by simp; omega), List.getElem?_drop]
      have h3 : (C.toList.take o ++ A.toList).length = o + A.size := by simp; omega
      have : ¬ (o ≤ j ∧ j < o + A.size) := by omega
      rw [h3, if_neg this]
      have : o + A.size + (j - (o + A.size)) = j := by omega
      simp [this]
def RanS (d nt : Nat) (e : Option Nat) (m : Nat) (S' : St) (g : G) (a : Act) (w : World) (r : Result Next) : Prop :=
  ∃ g' w', r = .ok .skip w' ∧ Rel d nt e S' g' a w' ∧ Ext d m g w g' w'
theorem storeAd_ran {F : Fx} (hT : TabOk P F.T) {ty off : Nat} {x v : Operand} {b : Base} {p : PV} {S1 : St} {cs : List PV} (h : Rel d nt e S g a w) (hx : S.opv x = some (.ad b off)) (hv : takeO S v = some (p, S1))
    (hb : S1.cont b = some cs) (hl : p.cs.length = F.T.cz ty) (hok : p.cs.all PV.okc = true) (hz : 0 < F.T.cz ty) (hle : off + p.cs.length ≤ cs.length) {o : Oper} (hop : o.op = .store ty x v) :
    RanS d nt e S.mm.length (S1.noR.setCont b (splice cs off p.cs)) g a w ((execOp a.eval o).run P w) := by
  obtain ⟨κ, h1, h2, h3, h4, h5, h6, h7, h8, h9, h10⟩ := takeO_rep (t := nt) h hv (by
    cases v with
    | tmp u =>
      simp only [notT, Bool.not_eq_true']
      unfold takeO at hv
      cases hq : S.opv (.tmp u) with
      | none => simp [hq] at hv
      | some q =>
        have := (h.tm u q hq).1
        cases hb : Nat.beq u nt with
        | true => have := Nat.eq_of_beq_eq_true hb; omega
        | false => rfl
    | _ => rfl)
  obtain ⟨h11, h12⟩ := repT_cells h2 hok
  obtain ⟨hk, C, E, h13, h14⟩ := h1.cont hb
  have hmm : S1.mm.length = S.mm.length := by rw [h8]
  -- the owned lists go to the cells' keys
  obtain ⟨g', h15, h16, h17, h18, h19, h20, h21⟩ := h1.noR.moveCells (m := S1.mm.length) p.cs (fun j => ((a.eval v).cells[j]?).getD undef) κ (fun j => ckey d g b (off + j)) (fun j => h3 _ _ j) (fun j => ckey_mine h1 hb _) (fun j _ => by
      have := h4 g j
      exact ⟨this.tm, this.lc, this.mm, this.vl⟩) h5 (fun i j => h7 i b _ g) (fun j c hj => by
      obtain ⟨u, h22, h23, _⟩ := h12 j c hj
      simp only [h22, Option.getD_some]; exact h23)
  have hb' : S1.noR.cont b = some cs := by cases b <;> exact hb
  have haddr : g'.addr b = g.addr b := by cases b <;> simp only [G.addr, h17, h19]
  have hsz : off + (a.eval v).cells.size ≤ C.size := by rw [h11, h14.1]; exact hle
  have hrun := storeVar_run (P := P) (w := w) hT (v := a.eval v) (o := off) h13 hz (by rw [h11, hl]) hsz (fun u hu => by
    obtain ⟨j, hj⟩ := List.mem_iff_getElem?.1 hu
    have hj' := (List.getElem?_eq_some_iff.1 hj).1
    simp only [Array.length_toList] at hj'
    have hc : p.cs[j]? = some (p.cs[j]'(by omega)) := List.getElem?_eq_getElem _
    obtain ⟨u', h22, _, h24⟩ := h12 j _ hc
    have : (a.eval v).cells[j]? = some u := by simpa using hj
    rw [this] at h22
    simp only [Option.some.injEq] at h22
    subst h22; exact h24)
  obtain ⟨_, C2, E2, h25, h26⟩ := h15.cont hb'
  rw [haddr, h13] at h25
  simp only [Option.some.injEq, Obj.cells.injEq, and_true] at h25
  obtain ⟨rfl, rfl⟩ := h25
  generalize hC' : ((C.toList.take off ++ (a.eval v).cells.toList ++ C.toList.drop (off + (a.eval v).cells.size)).toArray) = C' at hrun
  have hC'g : ∀ j, C'[j]? = if off ≤ j ∧ j < off + (a.eval v).cells.size then (a.eval v).cells[j - off]? else C[j]? := fun j => by rw [← hC']; exact row_splice hsz j
  have hother : ∀ k, k ≠ g'.addr b → (w.setRow (g.addr b) C').heap[k]? = w.heap[k]? := fun k hk' => setRow_other w (g.addr b) k C' (by rw [← haddr]; exact hk')
  have hnew : (w.setRow (g.addr b) C').heap[g'.addr b]? = some (.cells C' E (0, 0)) := by rw [haddr]; exact setRow_heap w (g.addr b) C C' E (0, 0) h13
  have hKeep : Keep (fun k _ => k = g'.addr b) g' w g' (w.setRow (g.addr b) C') := ⟨.refl g', rfl, fun k κ' hk' hx' => ⟨hk', hother k hx'⟩⟩
  have hne : ∀ k κ', g'.own k = some κ' → κ'.cell → ¬ k = g'.addr b := fun k κ' h27 h28 h29 => by
    subst h29
    have := (h15.cont hb').1
    rw [h27] at this
    simp only [Option.some.injEq] at this
    subst this
    exact bkey_cell d b h28
  have hck : ∀ j, (ckey d g' b j).cell := fun j => by cases b <;> trivial
  have hcke : ckey d g' b = ckey d g b := by funext j; cases b <;> simp only [ckey, h17]
  obtain ⟨h30, h31⟩ := h15.store (hE := ⟨C, by rw [haddr]; exact h13⟩) (cs' := splice cs off p.cs) hb' rfl hother (heap_setRow_size w _ _) hnew ⟨by
      rw [splice_len hle, ← h26.1, ← hC']
      simp only [List.size_toArray, List.length_append, List.length_take, List.length_drop, Array.length_toList]
      omega, fun j c hj => by
      rw [splice_get hle] at hj
      rw [hC'g, h11]
      by_cases hjj : off ≤ j ∧ j < off + p.cs.length
      · rw [if_pos hjj] at hj ⊢
        obtain ⟨u, h22, h23, _⟩ := h12 _ c hj
        have h32 := h20 _ c hj
        simp only [h22, Option.getD_some] at h32
        have e1 : off + (j - off) = j := by omega
        rw [e1] at h32
        exact ⟨u, h22, by rw [hcke]; exact h32.keep hKeep fun _ k hk' => hne k _ hk' (by rw [← hcke]; exact hck j)⟩
      · rw [if_neg hjj] at hj ⊢
        obtain ⟨u, h22, h23⟩ := h26.2 j c hj
        exact ⟨u, h22, h23.keep hKeep fun _ k hk' => hne k _ hk' (hck j)⟩⟩
  have hmm2 : S1.noR.mm.length = S.mm.length := hmm
  rw [hmm2] at h31
  rw [hmm] at h16
  refine ⟨g', _, ?_, h30, h16.trans' h31 h17 h18⟩
  simp [execOp, hop, eval_ad h hx, hrun]
end
end Go.KM
