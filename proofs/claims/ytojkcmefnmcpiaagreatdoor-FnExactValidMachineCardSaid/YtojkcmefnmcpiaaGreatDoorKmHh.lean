/- Stores and new variables. Conditions: none. -/
import Derived.Test.YtojkcmefnmcpiaaGreatDoorKmEe
import Derived.Laws.CopyRow
import Derived.Laws.MakeOwn
import Derived.Laws.OwnMore
namespace Go.KM
open Go
open Fam (Dn dflt)
open Enc (cells sz mkE glob gany u8)
set_option autoImplicit false
set_option linter.unusedVariables false
set_option linter.unusedSimpArgs false
set_option linter.unusedSectionVars false
section
section
variable [Enc] {d nt : Nat} {e : Option Nat} {S : St} {g g' : G} {a : Act} {w w' : World} {P : Program}
theorem repF_one {p : PV} {v : Value} (h : RepF g p v) : v.oneCell' = true := by
 cases h with
 | fpS T x v h => obtain ⟨_, _, _, h1, _⟩ := repF_fa h; rw [h1]; rfl
 | foS T xs v h => cases h <;> rfl
 | _ => rfl
theorem okc_one {c : PV} (hc : c.okc = true) {κ : Key} {v : Value} (h : RepC g w κ c v) : v.oneCell' = true := by
 cases c with
 | ol T xs =>
  obtain ⟨vs, h1, _⟩ := h
  rcases h1.2 with ⟨rfl, _⟩ | ⟨b, cap, cur, rfl, _⟩ <;> rfl
 | mp U es => obtain ⟨r, ms, ck, rfl, _⟩ := h; rfl
 | _ => first | exact repF_one h | simp [PV.okc, PV.plain, isOl, isLs] at hc
theorem one_cells {v : Value} (h : v.oneCell' = true) : v.cells = #[v] := by cases v <;> simp_all [Value.oneCell', Value.cells]
theorem repT_single {κ : Nat → Key} {p : PV} {v : Value} (hp : p.okc = true) (h : RepT g w κ p v) : RepC g w (κ 0) p v := by
 cases p with
 | ad b off => cases b with
  | loc t => simp [PV.okc, PV.plain, isOl, isLs] at hp
  | obj i => exact h
 | _ => first | exact h | simp [PV.okc, PV.plain, isOl, isLs] at hp
theorem cs_single {p : PV} (hp : p.cs.all PV.okc = true) : (∃ cs, p = .st cs) ∨ (p.cs = [p] ∧ p.okc = true) := by
 cases p with
 | st cs => exact .inl ⟨cs, rfl⟩
 | _ => right; refine ⟨rfl, ?_⟩; simpa [PV.cs] using hp
theorem repT_cells {κ : Nat → Key} {p : PV} {v : Value} (h : RepT g w κ p v) (hc : p.cs.all PV.okc = true) :
  v.cells.size = p.cs.length ∧ ∀ j c, p.cs[j]? = some c → ∃ u, v.cells[j]? = some u ∧ RepC g w (κ j) c u ∧ u.oneCell' = true := by
 rcases cs_single hc with ⟨cs, rfl⟩ | ⟨h0, hp⟩
 ·obtain ⟨A, rfl, h2, h3⟩ := h
  refine ⟨h2, fun j c hj => ?_⟩
  obtain ⟨u, h4, h5⟩ := h3 j c hj
  simp only [PV.cs, List.all_eq_true] at hc
  exact ⟨u, h4, h5, okc_one (hc c (List.mem_of_getElem? hj)) h5⟩
 ·have h1 := repT_single hp h
  have h2 := okc_one hp h1
  rw [one_cells h2, h0]
  refine ⟨rfl, fun j c hj => ?_⟩
  cases j with
  | zero => simp only [List.getElem?_cons_zero, Option.some.injEq] at hj; subst hj; exact ⟨v, rfl, h1, h2⟩
  | succ j => simp at hj
theorem takeO_rep (h : Rel d nt e S g a w) {x : Operand} {p : PV} {S1 : St} (ho : takeO S x = some (p, S1)) {t : Nat} (hx : notT t x = true) :
  ∃ κ : Nat → Key, Rel d nt e S1 g a w ∧ RepT g w κ p (a.eval x) ∧ (∀ m g j, Mine d m g w (κ j)) ∧ (∀ g j, Free d S1 g (κ j)) ∧ (∀ i j, κ i = κ j → i = j) ∧ (∀ i j, κ i ≠ Key.tm d t j) ∧
   (∀ i b j g, κ i ≠ ckey d g b j) ∧ S1.mm = S.mm ∧ S1.lc = S.lc ∧ (∀ b, S1.cont b = S.cont b) := by
 unfold takeO at ho
 split at ho
 ·rename_i q hq
  cases hd : q.dup with
  | true =>
   simp only [hd, cond_true, Option.some.injEq, Prod.mk.injEq] at ho
   obtain ⟨rfl, rfl⟩ := ho
   refine ⟨fun j => Key.ar d j, h, opv_dup h hq hd _, fun m g j => Nat.le_refl d, fun g j => ⟨fun _ _ _ hk => by simp at hk, fun _ _ _ _ hk => by simp at hk, fun _ _ _ _ hk => by simp at hk, fun _ _ hk => by simp at hk⟩, fun i j hij => by simpa using hij, fun i j => by simp,
    fun i b j g => by cases b <;> simp [ckey], rfl, rfl, fun _ => rfl⟩
  | false =>
   simp only [hd, cond_false] at ho
   split at ho
   ·rename_i u
    cases hk : q.okT with
    | false => simp [hk] at ho
    | true =>
     simp only [hk, cond_true, Option.some.injEq, Prod.mk.injEq] at ho
     obtain ⟨rfl, rfl⟩ := ho
     have hu : u ≠ t := by simp only [notT, Bool.not_eq_true'] at hx; exact beq_false hx
     refine ⟨Key.tm d u, h.gone (h.tm u _ hq).1, (h.tm u _ hq).2, fun m g j => Nat.le_refl d, fun g j => free_gone, fun i j hij => by simpa using hij, fun i j => by simp [hu],
      fun i b j g => by cases b <;> simp [ckey], rfl, rfl, fun b => by cases b <;> rfl⟩
   ·simp at ho
 ·simp at ho
theorem storeVar_run {T : Tab} (hT : TabOk P T) {ty b o : Nat} {C : Array Value} {E : TypeId} {v : Value} (hb : w.heap[b]? = some (.cells C E (0, 0))) (hz : 0 < T.cz ty) (hl : v.cells.size = T.cz ty)
  (hle : o + v.cells.size ≤ C.size) (h1 : ∀ u ∈ v.cells.toList, u.oneCell' = true) :
  (Instr.storeAt ty (.pointer (some ⟨b, o, none⟩)) v).run P w = .ok () (w.setRow b (C.toList.take o ++ v.cells.toList ++ C.toList.drop (o + v.cells.size)).toArray) := by
 obtain ⟨i, h2, h3⟩ := hT.cz ty hz
 have h4 := run_storeCells_at (P := P) b o E v.cells.toList 0 C w hb (by simpa using hle) h1
 simp only [Nat.add_zero, Array.length_toList] at h4
 simp [Instr.storeAt, Instr.sureAddr, storeVar, sizeOf, typeInfo, h2, h3, hl, h4]
theorem heap_setRow_size (w : World) (b : Nat) (cs : Array Value) : (w.setRow b cs).heap.size = w.heap.size := by simp [World.setRow]
theorem row_splice {C A : Array Value} {o : Nat} (h : o + A.size ≤ C.size) (j : Nat) :
  ((C.toList.take o ++ A.toList ++ C.toList.drop (o + A.size)).toArray)[j]? = if o ≤ j ∧ j < o + A.size then A[j - o]? else C[j]? := by
 have hs : C.size = C.toList.length := by simp
 have ha : A.size = A.toList.length := by simp
 simp only [List.getElem?_toArray]
 by_cases h1 : j < o
 ·rw [List.append_assoc, List.getElem?_append_left (by simp; omega), List.getElem?_take]
  have : ¬ (o ≤ j ∧ j < o + A.size) := by omega
  simp [h1, this]
 ·by_cases h2 : j < o + A.size
  ·rw [List.append_assoc, List.getElem?_append_right (by simp; omega), List.getElem?_append_left (by simp; omega)]
   have h3 : (C.toList.take o).length = o := by simp; omega
   have : o ≤ j ∧ j < o + A.size := by omega
   rw [if_pos this, h3]; simp
  ·rw [List.getElem?_append_right (by simp; omega), List.getElem?_drop]
   have h3 : (C.toList.take o ++ A.toList).length = o + A.size := by simp; omega
   have : ¬ (o ≤ j ∧ j < o + A.size) := by omega
   rw [h3, if_neg this]
   have : o + A.size + (j - (o + A.size)) = j := by omega
   simp [this]
def RanS (d nt : Nat) (e : Option Nat) (m : Nat) (S' : St) (g : G) (a : Act) (w : World) (r : Result Next) : Prop :=
 ∃ g' w', r = .ok .skip w' ∧ Rel d nt e S' g' a w' ∧ Ext d m g w g' w'
theorem storeAd_ran {F : Fx} (hT : TabOk P F.T) {ty off : Nat} {x v : Operand} {b : Base} {p : PV} {S1 : St} {cs : List PV} (h : Rel d nt e S g a w) (hx : S.opv x = some (.ad b off)) (hv : takeO S v = some (p, S1))
  (hb : S1.cont b = some cs) (hl : p.cs.length = F.T.cz ty) (hok : p.cs.all PV.okc = true) (hz : 0 < F.T.cz ty) (hle : off + p.cs.length ≤ cs.length) {o : Oper} (hop : o.op = .store ty x v) :
  RanS d nt e S.mm.length (S1.noR.setCont b (splice cs off p.cs)) g a w ((execOp a.eval o).run P w) := by
 obtain ⟨κ, h1, h2, h3, h4, h5, h6, h7, h8, h9, h10⟩ := takeO_rep (t := nt) h hv (by
  cases v with
  | tmp u =>
   simp only [notT, Bool.not_eq_true']
   unfold takeO at hv
   cases hq : S.opv (.tmp u) with
   | none => simp [hq] at hv
   | some q =>
    have := (h.tm u q hq).1
    cases hb : Nat.beq u nt with
    | true => have := Nat.eq_of_beq_eq_true hb; omega
    | false => rfl
  | _ => rfl)
 obtain ⟨h11, h12⟩ := repT_cells h2 hok
 obtain ⟨hk, C, E, h13, h14⟩ := h1.cont hb
 have hmm : S1.mm.length = S.mm.length := by rw [h8]
 -- the owned lists go to the cells' keys
 obtain ⟨g', h15, h16, h17, h18, h19, h20, h21⟩ := h1.noR.moveCells (m := S1.mm.length) p.cs (fun j => ((a.eval v).cells[j]?).getD undef) κ (fun j => ckey d g b (off + j)) (fun j => h3 _ _ j) (fun j => ckey_mine h1 hb _) (fun j _ => by
   have := h4 g j
   exact ⟨this.tm, this.lc, this.mm, this.vl⟩) h5 (fun i j => h7 i b _ g) (fun j c hj => by
   obtain ⟨u, h22, h23, _⟩ := h12 j c hj
   simp only [h22, Option.getD_some]; exact h23)
 have hb' : S1.noR.cont b = some cs := by cases b <;> exact hb
 have haddr : g'.addr b = g.addr b := by cases b <;> simp only [G.addr, h17, h19]
 have hsz : off + (a.eval v).cells.size ≤ C.size := by rw [h11, h14.1]; exact hle
 have hrun := storeVar_run (P := P) (w := w) hT (v := a.eval v) (o := off) h13 hz (by rw [h11, hl]) hsz (fun u hu => by
  obtain ⟨j, hj⟩ := List.mem_iff_getElem?.1 hu
  have hj' := (List.getElem?_eq_some_iff.1 hj).1
  simp only [Array.length_toList] at hj'
  have hc : p.cs[j]? = some (p.cs[j]'(by omega)) := List.getElem?_eq_getElem _
  obtain ⟨u', h22, _, h24⟩ := h12 j _ hc
  have : (a.eval v).cells[j]? = some u := by simpa using hj
  rw [this] at h22
  simp only [Option.some.injEq] at h22
  subst h22; exact h24)
 obtain ⟨_, C2, E2, h25, h26⟩ := h15.cont hb'
 rw [haddr, h13] at h25
 simp only [Option.some.injEq, Obj.cells.injEq, and_true] at h25
 obtain ⟨rfl, rfl⟩ := h25
 generalize hC' : ((C.toList.take off ++ (a.eval v).cells.toList ++ C.toList.drop (off + (a.eval v).cells.size)).toArray) = C' at hrun
 have hC'g : ∀ j, C'[j]? = if off ≤ j ∧ j < off + (a.eval v).cells.size then (a.eval v).cells[j - off]? else C[j]? := fun j => by rw [← hC']; exact row_splice hsz j
 have hother : ∀ k, k ≠ g'.addr b → (w.setRow (g.addr b) C').heap[k]? = w.heap[k]? := fun k hk' => setRow_other w (g.addr b) k C' (by rw [← haddr]; exact hk')
 have hnew : (w.setRow (g.addr b) C').heap[g'.addr b]? = some (.cells C' E (0, 0)) := by rw [haddr]; exact setRow_heap w (g.addr b) C C' E (0, 0) h13
 have hKeep : Keep (fun k _ => k = g'.addr b) g' w g' (w.setRow (g.addr b) C') := ⟨.refl g', rfl, fun k κ' hk' hx' => ⟨hk', hother k hx'⟩⟩
 have hne : ∀ k κ', g'.own k = some κ' → κ'.cell → ¬ k = g'.addr b := fun k κ' h27 h28 h29 => by
  subst h29
  have := (h15.cont hb').1
  rw [h27] at this
  simp only [Option.some.injEq] at this
  subst this
  exact bkey_cell d b h28
 have hck : ∀ j, (ckey d g' b j).cell := fun j => by cases b <;> trivial
 have hcke : ckey d g' b = ckey d g b := by funext j; cases b <;> simp only [ckey, h17]
 obtain ⟨h30, h31⟩ := h15.store (hE := ⟨C, by rw [haddr]; exact h13⟩) (cs' := splice cs off p.cs) hb' rfl hother (heap_setRow_size w _ _) hnew ⟨by
   rw [splice_len hle, ← h26.1, ← hC']
   simp only [List.size_toArray, List.length_append, List.length_take, List.length_drop, Array.length_toList]
   omega, fun j c hj => by
   rw [splice_get hle] at hj
   rw [hC'g, h11]
   by_cases hjj : off ≤ j ∧ j < off + p.cs.length
   ·rw [if_pos hjj] at hj ⊢
    obtain ⟨u, h22, h23, _⟩ := h12 _ c hj
    have h32 := h20 _ c hj
    simp only [h22, Option.getD_some] at h32
    have e1 : off + (j - off) = j := by omega
    rw [e1] at h32
    exact ⟨u, h22, by rw [hcke]; exact h32.keep hKeep fun _ k hk' => hne k _ hk' (by rw [← hcke]; exact hck j)⟩
   ·rw [if_neg hjj] at hj ⊢
    obtain ⟨u, h22, h23⟩ := h26.2 j c hj
    exact ⟨u, h22, h23.keep hKeep fun _ k hk' => hne k _ hk' (hck j)⟩⟩
 have hmm2 : S1.noR.mm.length = S.mm.length := hmm
 rw [hmm2] at h31
 rw [hmm] at h16
 refine ⟨g', _, ?_, h30, h16.trans' h31 h17 h18⟩
 simp [execOp, hop, eval_ad h hx, hrun]
end
end
section
section
variable [Enc] {d nt : Nat} {e : Option Nat} {S : St} {g g' : G} {a : Act} {w w' : World} {P : Program}
def skey (d : Nat) (g : G) : Src → Key
 | .var t => .tm d t 0
 | .cell b o => ckey d g b o
 | .vo i => .vo d i
theorem Rel.vlTo (h : Rel d nt e S g a w) (hr : S.rt = []) {i : Nat} {p : PV} (hp : i < S.vl.length → ∃ v, g.va i = some v ∧ RepC g w (Key.vo d i) p v) : Rel d nt e { S with vl := S.vl.set i p } g a w := by
 refine ⟨h.sz, h.tm, h.lc, h.mm, h.no, fun t r hr' => by rw [show ({ S with vl := S.vl.set i p } : St).rt = S.rt from rfl, hr] at hr'; simp [lk] at hr', h.wf, h.df, fun j q hj => ?_⟩
 have hk : (S.vl.set i p)[j]? = some q := hj
 rw [List.getElem?_set] at hk
 by_cases hij : i = j
 ·rw [if_pos hij] at hk
  split at hk
  ·rename_i hlt
   simp only [Option.some.injEq] at hk
   rw [← hk, ← hij]
   exact hp (by omega)
  ·simp at hk
 ·rw [if_neg hij] at hk
  exact h.vl j q hk
theorem free_vl {i : Nat} : Free d { S with vl := S.vl.set i .gone } g (.vo d i) := by
 refine ⟨fun _ _ _ hk => by simp at hk, fun _ _ _ _ hk => by simp at hk, fun _ _ _ _ hk => by simp at hk, fun j p hk hj => ?_⟩
 simp only [Key.vo.injEq, true_and] at hk
 have hl : (S.vl.set i .gone)[j]? = some p := hj
 rw [List.getElem?_set, if_pos hk] at hl
 split at hl
 ·simp only [Option.some.injEq] at hl; rw [← hl]; rfl
 ·simp at hl
theorem src_key (h : Rel d nt e S g a w) {s : Src} {T : Nat} {xs : List (Dn T)} (hs : S.at_ s = some (.ol T xs)) {v : Value} (hv : hdr g a w s = some v) : RepO g w (skey d g s) T xs v := by
 cases s with
 | var u =>
  have h1 := (h.tm u _ hs).2
  simp only [hdr] at hv
  have : a.tmps.getD u undef = v := by simp [Array.getD_eq_getD_getElem?, hv]
  rw [this] at h1; exact h1
 | vo i =>
  obtain ⟨u, h1, h2⟩ := h.vl i _ hs
  have hv : g.va i = some v := hv
  rw [h1] at hv
  obtain rfl := Option.some.inj hv
  exact h2
 | cell b o =>
  simp only [St.at_] at hs
  cases hb : S.cont b with
  | none => simp [hb] at hs
  | some cs =>
   simp only [hb] at hs
   obtain ⟨_, C, E, h2, h3⟩ := h.cont hb
   obtain ⟨u, h4, h5⟩ := h3.2 o _ hs
   simp only [hdr] at hv
   rw [cell_of_row w (g.addr b) o C E (0, 0) h2, h4] at hv
   simp only [Option.some.injEq] at hv
   subst hv
   exact h5
theorem wf_setRow {b : Nat} {C C' : Array Value} {E : TypeId} {κ : Key} (h : WF g w) (hb : w.heap[b]? = some (.cells C E (0, 0))) (ho : g.own b = some κ) : WF g (w.setRow b C') := by
 have hs := heap_setRow_size w b C'
 refine ⟨h.gl, fun k κ' hk => by rw [hs]; exact h.own k κ' hk, fun k D hf => ?_, fun k b' j hk => by rw [hs]; exact h.ob k b' j hk, fun i hi => by rw [hs]; exact h.ol i hi, h.inj, h.oe_row fun k D T fr hk => ?_⟩
 case refine_2 =>
  by_cases hkb : k = b
  ·subst hkb
   rw [hb] at hk
   cases hk
   exact ⟨_, _, setRow_heap w k C C' E _ hb⟩
  ·exact ⟨_, _, (setRow_other w b k C' hkb).trans hk⟩
 obtain ⟨h1, h2⟩ := h.fz k D hf
 refine ⟨h1, ?_⟩
 rw [setRow_other w b k C' fun hh => by subst hh; rw [ho] at h1; simp at h1]
 exact h2
theorem Rel.listAt (h : Rel d nt e S g a w) (hr : S.rt = []) {s : Src} {T : Nat} {xs ys : List (Dn T)} (hs : S.at_ s = some (.ol T xs)) {v : Value} (hv : hdr g a w s = some v) {b : Nat} (hb : v.ownBlock = some b) {C' : Array Value}
  (hy : RepO g (w.setRow b C') (skey d g s) T ys v) : Rel d nt e (S.setAt s (.ol T ys)) g a (w.setRow b C') ∧ Ext d S.mm.length g w g (w.setRow b C') := by
 have hrep := src_key h hs hv
 obtain ⟨vs, h1, h2, h3⟩ := hrep
 have hob := h2 b hb
 obtain ⟨C, hC⟩ : ∃ C, w.heap[b]? = some (.cells C T (0, 0)) := by
  rcases h1.2 with ⟨h4, _⟩ | ⟨b', cap, cur, h4, _, h5, _⟩
  ·subst h4; simp [Value.ownBlock] at hb
  ·subst h4; simp only [Value.ownBlock, Option.some.injEq] at hb; subst hb; exact ⟨cur, h5⟩
 have hother : ∀ k, k ≠ b → (w.setRow b C').heap[k]? = w.heap[k]? := fun k hk => setRow_other w b k C' hk
 have hk : Keep (fun k κ => k = b ∧ κ = skey d g s) g w g (w.setRow b C') := ⟨.refl g, rfl, fun k κ hk hx => ⟨hk, hother k fun hh => by subst hh; rw [hob] at hk; exact hx ⟨rfl, (Option.some.inj hk).symm⟩⟩⟩
 have hwf := wf_setRow (C' := C') h.wf hC hob
 cases s with
 | var t =>
  have ht := (h.tm t _ hs).1
  have hm : Mine d S.mm.length g w (skey d g (.var t)) := Nat.le_refl d
  refine ⟨?_, ⟨.refl g, fun k κ hk' hout => ⟨hk', hother k fun hh => by subst hh; rw [hob] at hk'; simp only [Option.some.injEq] at hk'; subst hk'; exact hm.out k hout⟩, by rw [heap_setRow_size]; exact Nat.le_refl _, fun i h1 h2 => by omega, ⟨rfl, rfl, rfl⟩⟩⟩
  have h4 : Rel d nt e (S.setT t .gone) g a w := h.gone ht
  have h5 := h4.keep hk (fun _ => rfl) (fun k κ hx => by obtain ⟨_, rfl⟩ := hx; exact ⟨trivial, fun _ => free_gone⟩) (.inl (by simp [St.setT, hr, dropR])) hwf
  have h6 := h5.setT' (a' := a) (t := t) (p := .ol T ys) ht rfl rfl (fun _ _ => rfl) (by
   have : a.tmps.getD t undef = v := by simp only [hdr] at hv; simp [Array.getD_eq_getD_getElem?, hv]
   rw [this]; exact hy)
  refine h6.congr (fun u => ?_) (fun _ => rfl) rfl (by simp [St.setAt, St.setT, hr, dropR])
  show lk ((t, _) :: S.tm) u = lk ((t, _) :: (t, _) :: S.tm) u
  rw [lk_cons, lk_cons, lk_cons]
  split <;> rfl
 | vo i =>
  have hm : Mine d S.mm.length g w (skey d g (.vo i)) := Nat.le_refl d
  refine ⟨?_, ⟨.refl g, fun k κ hk' hout => ⟨hk', hother k fun hh => by subst hh; rw [hob] at hk'; simp only [Option.some.injEq] at hk'; subst hk'; exact hm.out k hout⟩, by rw [heap_setRow_size]; exact Nat.le_refl _, fun i h1 h2 => by omega, ⟨rfl, rfl, rfl⟩⟩⟩
  have h4 : Rel d nt e { S with vl := S.vl.set i .gone } g a w := h.vlTo hr fun _ => ⟨v, hv, trivial⟩
  have h5 := h4.keep hk (fun _ => rfl) (fun k κ hx => by obtain ⟨_, rfl⟩ := hx; exact ⟨trivial, fun _ => free_vl⟩) (.inl hr) hwf
  have h6 := h5.vlTo (p := .ol T ys) (i := i) hr fun _ => ⟨v, hv, hy⟩
  refine h6.congr (fun _ => rfl) (fun _ => rfl) rfl rfl ?_
  show S.vl.set i _ = (S.vl.set i _).set i _
  rw [List.set_set]
 | cell bs o =>
  simp only [St.at_] at hs
  cases hcb : S.cont bs with
  | none => simp [hcb] at hs
  | some cs =>
   simp only [hcb] at hs
   have hle := (List.getElem?_eq_some_iff.1 hs).1
   have hm := ckey_mine h hcb o
   refine ⟨?_, ⟨.refl g, fun k κ hk' hout => ⟨hk', hother k fun hh => by subst hh; rw [hob] at hk'; simp only [Option.some.injEq] at hk'; subst hk'; exact hm.out k hout⟩, by rw [heap_setRow_size]; exact Nat.le_refl _, fun i h1 h2 => by omega, ⟨rfl, rfl, rfl⟩⟩⟩
   have h4 : Rel d nt e (S.setCont bs (splice cs o [.gone])) g a w := h.cellTo hcb hr hle fun _ _ _ _ _ => trivial
   have hcont' := setCont_cont S (cs' := splice cs o [.gone]) hcb
   have h5 := h4.keep hk (fun _ => rfl) (fun k κ hx => by
    obtain ⟨_, rfl⟩ := hx
    exact ⟨by cases bs <;> trivial, fun _ => free_cell h4 hcont' fun c hc' => by
     rw [splice1_get hle, if_pos rfl] at hc'
     simp only [Option.some.injEq] at hc'
     subst hc'; rfl⟩) (.inl (by cases bs <;> exact hr)) hwf
   have hne : g.addr bs ≠ b := fun hh => by
    have := (h.cont hcb).1
    rw [hh, hob] at this
    simp only [Option.some.injEq] at this
    exact bkey_cell d bs (this ▸ (by cases bs <;> trivial : (skey d g (.cell bs o)).cell))
   have h6 := h5.cellTo (c := .ol T ys) (off := o) hcont' (by cases bs <;> exact hr) (by rw [splice1_len hle]; exact hle) fun C2 E2 v' h14 h15 => by
    have : v' = v := by
     simp only [hdr] at hv
     rw [hother _ hne] at h14
     rw [cell_of_row w (g.addr bs) o C2 E2 (0, 0) h14, h15] at hv
     exact Option.some.inj hv
    subst this
    exact hy
   rw [splice_splice hle] at h6
   have hset : S.setAt (.cell bs o) (.ol T ys) = S.setCont bs (splice cs o [.ol T ys]) := by simp only [St.setAt, hcb]
   rw [hset]
   refine h6.congr (fun u => by cases bs <;> rfl) (fun u => ?_) ?_ (by cases bs <;> rfl)
   ·exact (((setCont_setCont S bs _ _ u) _).1 rfl).symm ▸ rfl
   ·cases bs with
    | loc u => rfl
    | obj u => show S.mm.set u _ = (S.mm.set u _).set u _; rw [List.set_set]
theorem storeEl_ran {F : Fx} (hT : TabOk P F.T) {ty U i off : Nat} {x v : Operand} {s : Src} {xs : List (Dn U)} {p : PV} {y : Dn U} (h : Rel d nt e S g a w) (hx : S.opr x = some (.el s U i off)) (hs : S.at_ s = some (.ol U xs)) (hv : S.opv v = some p)
  (hd : p.dup = true) (hpl : p.cs.all PV.plain = true) (hl : p.cs.length = F.T.cz ty) (hz : 0 < F.T.cz ty) (hy : mkE U (splice (cells U (xs.getD i (dflt U))) off p.cs) = some y) {o : Oper} (hop : o.op = .store ty x v) :
  RanS d nt e S.mm.length (S.noR.setAt s (.ol U (xs.set i y))) g a w ((execOp a.eval o).run P w) := by
 obtain ⟨u, rfl, hu⟩ := opr_tmp hx
 obtain ⟨_, xs', b, len, cap, h1, h2, h3, h4⟩ := h.rt u _ hu
 rw [hs] at h1
 simp only [Option.some.injEq, PV.ol.injEq, heq_eq_eq, true_and] at h1
 subst h1
 have h5 := src_key h hs h2
 have h5' := h5
 obtain ⟨C, h7, hlen, h8, h9, h10, h11⟩ := repO_row h5
 obtain ⟨vs, h12, h13, h14⟩ := h5'
 -- the cells that are stored
 have hok : p.cs.all PV.okc = true := by rw [List.all_eq_true] at hpl ⊢; intro c hc; simp [PV.okc, hpl c hc]
 obtain ⟨h15, h16⟩ := repT_cells (opv_dup h hv hd fun _ => .obj) hok
 have hget : xs[i]? = some (xs.getD i (dflt U)) := by rw [List.getD_eq_getElem?_getD, List.getElem?_eq_getElem h3]; rfl
 obtain ⟨h17, h18⟩ := hT.enc.mkE _ _ _ hy
 have hcl := hT.enc.len U (xs.getD i (dflt U))
 have hfit : off + p.cs.length ≤ (cells U (xs.getD i (dflt U))).length := by
  have : (splice (cells U (xs.getD i (dflt U))) off p.cs).length = sz U := h17
  simp only [splice, List.length_append, List.length_take, List.length_drop] at this
  omega
 have hrow : (i + 1) * sz U ≤ cap * sz U := Nat.mul_le_mul_right _ (by omega)
 rw [Nat.add_mul, Nat.one_mul] at hrow
 have hsz : i * sz U + off + (a.eval v).cells.size ≤ C.size := by rw [h15, h10]; omega
 have hrun := storeVar_run (P := P) (w := w) hT (v := a.eval v) (o := i * sz U + off) h7 hz (by rw [h15, hl]) hsz (fun u hu => by
  obtain ⟨j, hj⟩ := List.mem_iff_getElem?.1 hu
  have hj' := (List.getElem?_eq_some_iff.1 hj).1
  simp only [Array.length_toList] at hj'
  have hc : p.cs[j]? = some (p.cs[j]'(by omega)) := List.getElem?_eq_getElem _
  obtain ⟨u', h22, _, h24⟩ := h16 j _ hc
  have : (a.eval v).cells[j]? = some u := by simpa using hj
  rw [this] at h22
  simp only [Option.some.injEq] at h22
  subst h22; exact h24)
 generalize hC' : ((C.toList.take (i * sz U + off) ++ (a.eval v).cells.toList ++ C.toList.drop (i * sz U + off + (a.eval v).cells.size)).toArray) = C' at hrun
 have hC'g : ∀ j, C'[j]? = if i * sz U + off ≤ j ∧ j < i * sz U + off + (a.eval v).cells.size then (a.eval v).cells[j - (i * sz U + off)]? else C[j]? := fun j => by rw [← hC']; exact row_splice hsz j
 have hC's : C'.size = C.size := by
  rw [← hC']
  simp only [List.size_toArray, List.length_append, List.length_take, List.length_drop, Array.length_toList]
  omega
 have hnew := setRow_heap w b C C' U (0, 0) h7
 -- the elements as they are now
 have hcells : ∀ k z, (xs.set i y)[k]? = some z → CellsAt g C' (k * sz U) (cells U z) := by
  intro k z hk
  rw [List.getElem?_set] at hk
  by_cases hki : i = k
  ·subst hki
   simp only [if_true, h3] at hk
   simp only [Option.some.injEq] at hk
   subst hk
   refine h18 g C' _ fun j c hj => ?_
   rw [splice_get hfit] at hj
   by_cases hjj : off ≤ j ∧ j < off + p.cs.length
   ·rw [if_pos hjj] at hj
    obtain ⟨u', h22, h23, _⟩ := h16 _ c hj
    refine ⟨u', ?_, (plain_key (all_plain hpl hj)).1 h23⟩
    rw [hC'g, h15, if_pos (by omega)]
    have : i * sz U + j - (i * sz U + off) = j - off := by omega
    rw [this]; exact h22
   ·rw [if_neg hjj] at hj
    obtain ⟨u', h22, h23⟩ := h11 i _ hget j c hj
    refine ⟨u', ?_, h23⟩
    rw [hC'g, h15, if_neg (by omega)]; exact h22
  ·simp only [hki, if_false] at hk
   intro j c hj
   obtain ⟨u', h22, h23⟩ := h11 k z hk j c hj
   refine ⟨u', ?_, h23⟩
   have hj' : j < sz U := by have := (List.getElem?_eq_some_iff.1 hj).1; rw [hT.enc.len] at this; exact this
   rw [hC'g, h15, if_neg ?_]
   ·exact h22
   ·rw [hcl] at hfit
    rcases Nat.lt_or_gt_of_ne hki with hlt | hgt
    ·have := Nat.mul_le_mul_right (sz U) (show i + 1 ≤ k by omega)
     rw [Nat.add_mul, Nat.one_mul] at this; omega
    ·have := Nat.mul_le_mul_right (sz U) (show k + 1 ≤ i by omega)
     rw [Nat.add_mul, Nat.one_mul] at this; omega
 have hy' : RepO g (w.setRow b C') (skey d g s) U (xs.set i y) (.slice (some ⟨b, 0, none⟩) len cap) := by
  have hcap : cap ≤ maxLen := by
   rcases h12.2 with ⟨h24, _⟩ | ⟨b', cap', cur, h24, _, _, _, h25, _⟩
   ·simp at h24
   ·simp only [Value.slice.injEq] at h24; obtain ⟨_, _, rfl⟩ := h24; exact h25
  refine ⟨(C'.toList.take ((xs.set i y).length * sz U)), ⟨?_, .inr ⟨b, cap, C', by rw [List.length_set, ← hlen], Nat.zero_le _, hnew, by rw [List.length_set]; exact h8, hcap, by rw [hC's, h10], rfl⟩⟩, fun b' hb' => ?_, fun k z hk j c hj => ?_⟩
  ·have hh : C'.toList.length = cap * sz U := by rw [Array.length_toList, hC's, h10]
   rw [List.length_take, List.length_set, hh]
   exact Nat.min_eq_left (Nat.mul_le_mul_right _ h8)
  ·simp only [Value.ownBlock, Option.some.injEq] at hb'; subst hb'; exact h13 _ rfl
  ·obtain ⟨u', h22, h23⟩ := hcells k z hk j c hj
   refine ⟨u', ?_, h23⟩
   have hk' : k < xs.length := by have := (List.getElem?_eq_some_iff.1 hk).1; simpa using this
   have hj' : j < sz U := by have := (List.getElem?_eq_some_iff.1 hj).1; rw [hT.enc.len] at this; exact this
   have hlt : k * sz U + j < (xs.set i y).length * sz U := by
    have := Nat.mul_le_mul_right (sz U) (show k + 1 ≤ xs.length by omega)
    rw [Nat.add_mul, Nat.one_mul] at this
    rw [List.length_set]; omega
   simp only [List.getElem?_toArray]
   rw [List.getElem?_take, if_pos hlt]
   simpa using h22
 have hs' : S.noR.at_ s = some (.ol U xs) := by
  cases s with
  | var u => exact hs
  | cell b o => cases b <;> exact hs
  | vo i => exact hs
 obtain ⟨h30, h31⟩ := h.noR.listAt rfl hs' h2 rfl hy'
 refine ⟨g, _, ?_, h30, h31⟩
 simp [execOp, hop, show a.eval (.tmp u) = _ from h4, hrun]
theorem store_ran {F : Fx} (hT : TabOk P F.T) {ty : Nat} {x v : Operand} {S' : St} (h : Rel d nt e S g a w) (ho : opStore F ty x v S = some S') {o : Oper} (hop : o.op = .store ty x v) :
  RanS d nt e S.mm.length S' g a w ((execOp a.eval o).run P w) := by
 have hpos : ∀ {n : Nat}, Nat.blt 0 n = true → 0 < n := fun {n} hh => by
  have : 1 ≤ n := by simpa [Nat.blt, Nat.ble_eq] using hh
  omega
 unfold opStore at ho
 split at ho
 ·rename_i s U i off hx
  split at ho
  ·rename_i V xs p hs hv
   cases hg : (Nat.beq U V && p.dup && p.cs.all PV.plain && Nat.beq p.cs.length (F.T.cz ty) && Nat.blt 0 (F.T.cz ty)) with
   | false => simp only [hg, cond_false, reduceCtorEq] at ho
   | true =>
    simp only [hg, cond_true] at ho
    simp only [Bool.and_eq_true] at hg
    obtain ⟨⟨⟨⟨h1, h2⟩, h3⟩, h4⟩, h5⟩ := hg
    have := Nat.eq_of_beq_eq_true h1
    subst this
    split at ho <;> simp only [Option.some.injEq, reduceCtorEq] at ho
    rename_i y hy
    subst ho
    exact storeEl_ran hT h hx hs hv h2 h3 (Nat.eq_of_beq_eq_true h4) (hpos h5) hy hop
  ·simp at ho
 ·simp at ho
 ·split at ho
  ·rename_i b off p S1 hx hv
   split at ho
   ·rename_i cs hb
    cases hg : (Nat.beq p.cs.length (F.T.cz ty) && p.cs.all PV.okc && Nat.blt 0 (F.T.cz ty) && Nat.ble (off + p.cs.length) cs.length) with
    | false => simp only [hg, cond_false, reduceCtorEq] at ho
    | true =>
     simp only [hg, cond_true, Option.some.injEq] at ho
     subst ho
     simp only [Bool.and_eq_true] at hg
     obtain ⟨⟨⟨h1, h2⟩, h3⟩, h4⟩ := hg
     exact storeAd_ran hT h hx hv hb (Nat.eq_of_beq_eq_true h1) h2 (hpos h3) (Nat.le_of_ble_eq_true h4) hop
   ·simp at ho
  ·simp at ho
end
end
section
section
variable [Enc] {d nt : Nat} {e : Option Nat} {S : St} {g g' : G} {a : Act} {w w' : World} {P : Program}
theorem heap_alloc_old' (w : World) (o : Obj) (k : Nat) (h : k ≠ w.heap.size) : (w.alloc o).heap[k]? = w.heap[k]? := by
 simp only [World.alloc, Array.getElem?_push]
 rw [if_neg h]
theorem alloc_size (w : World) (o : Obj) : (w.alloc o).heap.size = w.heap.size + 1 := by show (w.heap.push o).size = _; simp
def G.new (g : G) (b : Nat) (κ : Key) : G := { g with own := fun x => if x = b then some κ else g.own x }
theorem keep_alloc (h : WF g w) (o : Obj) (κ : Key) : Keep (fun _ _ => False) g w (g.new w.heap.size κ) (w.alloc o) := by
 refine ⟨⟨fun _ _ h => h, Nat.le_refl _, fun _ _ => rfl, fun _ _ _ => rfl, rfl, fun _ _ => rfl⟩, rfl, fun b k hb _ => ?_⟩
 have hlt := h.own b k hb
 have hne : b ≠ w.heap.size := by omega
 exact ⟨by simp only [G.new, if_neg hne]; exact hb, heap_alloc_old' w o b hne⟩
theorem wf_alloc (h : WF g w) (o : Obj) (κ : Key) (hκ : ∀ b' j, κ = .ob b' j → b' < w.heap.size + 1) : WF (g.new w.heap.size κ) (w.alloc o) := by
 refine ⟨gl_mono (keep_alloc h o κ).gr h.gl, fun b k hb => ?_, fun b C hf => ?_, fun b b' j hb => ?_, fun i hi => ?_, h.inj, fun i hi => by
  obtain ⟨k0, k1⟩ := h.oe_row (RowTy.of_same fun k hk => heap_alloc_old' w o k (by omega)) i hi
  have hne : g.oa i ≠ w.heap.size := by have := h.ol i hi; omega
  exact ⟨by simp only [G.new, if_neg hne]; exact k0, k1⟩⟩
 ·rw [alloc_size]
  simp only [G.new] at hb
  split at hb
  ·rename_i hh; omega
  ·have := h.own b k hb; omega
 ·obtain ⟨h1, h2⟩ := h.fz b C hf
  have hlt := (Array.getElem?_eq_some_iff.1 h2).1
  have hne : b ≠ w.heap.size := by omega
  exact ⟨by simp only [G.new, if_neg hne]; exact h1, by rw [heap_alloc_old' w o b hne]; exact h2⟩
 ·rw [alloc_size]
  simp only [G.new] at hb
  split at hb
  ·simp only [Option.some.injEq] at hb; exact hκ b' j hb
  ·have := h.ob b b' j hb; omega
 ·rw [alloc_size]; have := h.ol i hi; simp only [G.new]; omega
theorem Rel.alloc (h : Rel d nt e S g a w) (o : Obj) (κ : Key) (hκ : ∀ b' j, κ = .ob b' j → b' < w.heap.size + 1) : Rel d nt e S (g.new w.heap.size κ) a (w.alloc o) :=
 h.keep (keep_alloc h.wf o κ) (fun _ => rfl) (fun _ _ hx => hx.elim) (.inr fun b k hb hc => by
  have := (keep_alloc h.wf o κ).own b k hb id
  exact ⟨this.2, k, this.1, hc⟩) (wf_alloc h.wf o κ hκ)
theorem ext_alloc (h : WF g w) (m : Nat) (o : Obj) (κ : Key) : Ext d m g w (g.new w.heap.size κ) (w.alloc o) :=
 ⟨(keep_alloc h o κ).gr, fun b k hb _ => (keep_alloc h o κ).own b k hb id, by rw [alloc_size]; omega, fun i h1 h2 => by simp only [G.new] at h2; omega, ⟨rfl, rfl, rfl⟩⟩
theorem lk_dropLoc {t : Nat} {l : List (Nat × PV)} {u : Nat} {p : PV} (h : lk (dropLoc t l) u = some p) : p = .gone ∧ (∃ q, lk l u = some q) ∨ (lk l u = some p ∧ p.locIs t = false) := by
 induction l with
 | nil => simp [dropLoc, lk] at h
 | cons x l ih =>
  obtain ⟨v, q⟩ := x
  simp only [dropLoc] at h
  rw [lk_cons] at h ⊢
  by_cases hv : v = u
  ·subst hv
   simp only [if_true, Option.some.injEq] at h ⊢
   cases hc : q.locIs t with
   | true => simp only [hc, cond_true] at h; exact .inl ⟨h.symm, q, rfl⟩
   | false => simp only [hc, cond_false] at h; subst h; exact .inr ⟨rfl, hc⟩
  ·simp only [hv, if_false] at h ⊢
   exact ih h
def G.lab (g : G) (t b : Nat) : G := { g with lb := fun u => if u = t then b else g.lb u }
theorem repC_lab {t b : Nat} {κ : Key} {p : PV} {v : Value} (h : RepC g w κ p v) : RepC (g.lab t b) w κ p v := by
 have hg : Grow g (g.lab t b) := ⟨fun _ _ h => h, Nat.le_refl _, fun _ _ => rfl, fun _ _ _ => rfl, rfl, fun _ _ => rfl⟩
 cases p with
 | ol T xs => obtain ⟨vs, h1, h2, h3⟩ := h; exact ⟨vs, h1, h2, fun i x hi => (h3 i x hi).mono hg⟩
 | mp U es => obtain ⟨r, ms, ck, h1, h2, h3, h4, h5⟩ := h; exact ⟨r, ms, ck, h1, h2, h3, h4, fun i x hi => let ⟨q, a1, a2, c, a3, a4⟩ := h5 i x hi; ⟨q, a1, a2, c, a3, a4.mono hg⟩⟩
 | gone => trivial
 | _ => exact RepF.mono hg h
theorem repV_lab {t b : Nat} {κ : Key} {p : PV} {v : Value} (hp : p.locIs t = false) (h : RepV g w κ p v) : RepV (g.lab t b) w κ p v := by
 have hg : Grow g (g.lab t b) := ⟨fun _ _ h => h, Nat.le_refl _, fun _ _ => rfl, fun _ _ _ => rfl, rfl, fun _ _ => rfl⟩
 cases p with
 | st cs => obtain ⟨A, h1, h2, h3⟩ := h; exact ⟨A, h1, h2, h3.mono hg⟩
 | ad bs off => cases bs with
  | loc u =>
   have hu : u ≠ t := beq_false hp
   simp only [RepV, G.lab, if_neg hu] at h ⊢
   exact h
  | obj i => exact repC_lab (w := w) (κ := κ) (p := .ad (.obj i) off) h
 | gone => trivial
 | ol T xs => exact repC_lab (p := .ol T xs) h
 | mp U es => exact repC_lab (p := .mp U es) h
 | _ => exact RepF.mono hg h
theorem repT_lab {t b : Nat} {κ : Nat → Key} {p : PV} {v : Value} (hp : p.locIs t = false) (h : RepT g w κ p v) : RepT (g.lab t b) w κ p v := by
 have hg : Grow g (g.lab t b) := ⟨fun _ _ h => h, Nat.le_refl _, fun _ _ => rfl, fun _ _ _ => rfl, rfl, fun _ _ => rfl⟩
 cases p with
 | tup vs => simp [PV.locIs] at hp
 | st cs => obtain ⟨A, h1, h2, h3⟩ := h; exact ⟨A, h1, h2, fun j c hj => let ⟨u, h4, h5⟩ := h3 j c hj; ⟨u, h4, repC_lab h5⟩⟩
 | ol T xs => exact repV_lab (p := .ol T xs) rfl h
 | mp U es => exact repV_lab (p := .mp U es) rfl h
 | ad bs off => exact repV_lab (w := w) (κ := κ 0) (p := .ad bs off) hp h
 | gone => trivial
 | _ => exact RepF.mono hg h
theorem Rel.newLoc (h : Rel d nt e S g a w) {t b : Nat} {cs : List PV} {C : Array Value} {E : TypeId} (ho : g.own b = some (.loc d t)) (hb : w.heap[b]? = some (.cells C E (0, 0))) (hk : RepK g w (Key.lc d t) cs C) :
  Rel d nt e { tm := dropLoc t S.tm, lc := (t, cs) :: S.lc, mm := S.mm, rt := [], vl := S.vl } (g.lab t b) a w := by
 refine ⟨h.sz, fun u p hp => ?_, fun u cs2 hu => ?_, fun i cs2 hi => ?_, h.no, fun u r hr => by simp [lk] at hr, ⟨gl_mono (g := g) (g' := g.lab t b) ⟨fun _ _ h => h, Nat.le_refl _, fun _ _ => rfl, fun _ _ _ => rfl, rfl, fun _ _ => rfl⟩ h.wf.gl, h.wf.own, h.wf.fz, h.wf.ob, h.wf.ol, h.wf.inj, h.wf.oe⟩, h.df, fun i p hi => let ⟨v, h1, h2⟩ := h.vl i p hi; ⟨v, h1, repC_lab h2⟩⟩
 ·rcases lk_dropLoc hp with ⟨rfl, q, h1⟩ | ⟨h1, h2⟩
  ·exact ⟨(h.tm u q h1).1, trivial⟩
  ·exact ⟨(h.tm u p h1).1, repT_lab h2 (h.tm u p h1).2⟩
 ·have hu : lk ((t, cs) :: S.lc) u = some cs2 := hu
  rw [lk_cons] at hu
  by_cases hut : t = u
  ·subst hut
   simp only [if_true, Option.some.injEq] at hu
   subst hu
   simp only [G.lab, if_true]
   exact ⟨ho, C, E, hb, hk.1, fun j c hj => let ⟨v, h1, h2⟩ := hk.2 j c hj; ⟨v, h1, repC_lab h2⟩⟩
  ·simp only [hut, if_false] at hu
   obtain ⟨h1, C2, E2, h2, h3⟩ := h.lc u cs2 hu
   have hne : u ≠ t := fun hh => hut hh.symm
   simp only [G.lab, if_neg hne]
   exact ⟨h1, C2, E2, h2, h3.1, fun j c hj => let ⟨v, h4, h5⟩ := h3.2 j c hj; ⟨v, h4, repC_lab h5⟩⟩
 ·obtain ⟨h0, h1, C2, E2, h2, h3⟩ := h.mm i cs2 hi
  exact ⟨h0, h1, C2, E2, h2, h3.1, fun j c hj => let ⟨v, h4, h5⟩ := h3.2 j c hj; ⟨v, h4, repC_lab h5⟩⟩
def G.obj (g : G) (b : Nat) (E : TypeId) : G := { g with no := g.no + 1, oa := fun i => if i = g.no then b else g.oa i, fe := fun x => if x = b then (E, (0, 0)) else g.fe x }
theorem grow_obj (g : G) (b : Nat) (E : TypeId) (hz : ∀ C, g.fz b ≠ some C) (hfresh : ∀ i, i < g.no → g.oa i ≠ b) : Grow g (g.obj b E) := by
 refine ⟨fun _ _ h => h, Nat.le_succ _, fun i hi => ?_, fun b' C hb' => ?_, rfl, fun i hi => ?_⟩
 ·have : i ≠ g.no := by omega
  simp only [G.obj, if_neg this]
 ·have : b' ≠ b := fun hh => by subst hh; exact hz C hb'
  simp only [G.obj, if_neg this]
 ·simp only [G.obj, if_neg (hfresh i hi)]
theorem keep_obj (g : G) (b : Nat) (E : TypeId) (hz : ∀ C, g.fz b ≠ some C) (hfresh : ∀ i, i < g.no → g.oa i ≠ b) (w : World) : Keep (fun _ _ => False) g w (g.obj b E) w := ⟨grow_obj g b E hz hfresh, rfl, fun _ _ h _ => ⟨h, rfl⟩⟩
theorem WF.nfz (h : WF g w) {b : Nat} {κ : Key} (ho : g.own b = some κ) : ∀ C, g.fz b ≠ some C := fun C hh => by
 have := (h.fz b C hh).1
 rw [ho] at this; cases this
theorem Rel.newObj (h : Rel d nt none S g a w) (he : S.mm.length = g.no) {b : Nat} {cs : List PV} {C : Array Value} {E : TypeId} (ho : g.own b = some .obj) (hfresh : ∀ i, i < g.no → g.oa i ≠ b)
  (hb : w.heap[b]? = some (.cells C E (0, 0))) (hk : RepK g w (Key.ob b) cs C) :
  Rel d nt none { tm := S.tm, lc := S.lc, mm := S.mm ++ [cs], rt := [], vl := S.vl } (g.obj b E) a w := by
 have hK := keep_obj g b E (h.wf.nfz ho) hfresh w
 have no : ∀ {κ : Key}, ∀ b', g.own b' = some κ → ¬ False := fun _ _ h => h
 refine ⟨h.sz, fun u p hp => ⟨(h.tm u p hp).1, (h.tm u p hp).2.keep hK fun _ _ _ _ h => h⟩, fun u cs2 hu => ?_, fun i cs2 hi => ?_, by simp [NoOk, G.obj, he], fun u r hr => by simp [lk] at hr, ⟨gl_mono hK.gr h.wf.gl, h.wf.own, fun b' C' hb' => ?fz, h.wf.ob, fun i hi => ?_, fun i j hi hj hij => ?_, fun i hi => ?oe⟩, h.df, fun i p hi => let ⟨v, h1, h2⟩ := h.vl i p hi; ⟨v, h1, h2.keep hK fun _ _ _ h => h⟩⟩
 case fz =>
  obtain ⟨h1, h2⟩ := h.wf.fz b' C' hb'
  have hne : b' ≠ b := fun hh => by subst hh; exact h.wf.nfz ho C' hb'
  refine ⟨h1, ?_⟩
  simp only [G.obj, if_neg hne]; exact h2
 case oe =>
  simp only [G.obj] at hi ⊢
  by_cases hin : i = g.no
  ·rw [if_pos hin, if_pos rfl]; exact ⟨ho, C, (0, 0), hb⟩
  ·rw [if_neg hin, if_neg (hfresh i (by omega))]; exact h.wf.oe i (by omega)
 ·obtain ⟨h1, C2, E2, h2, h3⟩ := h.lc u cs2 hu
  exact ⟨h1, C2, E2, h2, h3.keep hK fun _ _ _ _ _ _ h => h⟩
 ·have hi' : (S.mm ++ [cs])[i]? = some cs2 := hi
  by_cases hlt : i < S.mm.length
  ·rw [List.getElem?_append_left hlt] at hi'
   obtain ⟨h0, h1, C2, E2, h2, h3⟩ := h.mm i cs2 hi'
   have hne : i ≠ g.no := by omega
   simp only [G.obj, if_neg hne]
   exact ⟨by omega, h1, C2, E2, h2, h3.keep hK fun _ _ _ _ _ _ h => h⟩
  ·have hi2 : i = S.mm.length := by
    have := (List.getElem?_eq_some_iff.1 hi').1
    simp at this; omega
   subst hi2
   rw [List.getElem?_append_right (Nat.le_refl _)] at hi'
   simp only [Nat.sub_self, List.getElem?_cons_zero, Option.some.injEq] at hi'
   subst hi'
   simp only [G.obj, he, if_true]
   exact ⟨by omega, ho, C, E, hb, hk.keep hK fun _ _ _ _ _ _ h => h⟩
 ·simp only [G.obj] at hi ⊢
  split
  ·exact h.wf.own _ _ ho
  ·exact h.wf.ol i (by omega)
 ·simp only [G.obj] at hi hj hij
  split at hij <;> split at hij
  ·omega
  ·exact absurd hij.symm (hfresh j (by omega))
  ·exact absurd hij (hfresh i (by omega))
  ·exact h.wf.inj i j (by omega) (by omega) hij
theorem newVar_ran {F : Fx} {t ty : Nat} {cs : List PV} {A : Array Value} {κ : Nat → Key} {r : Result Next} (hF : F.e = e.isNone) (ht : t < nt) (h : Rel d nt e S g a w) (hm : ∀ m g j, Mine d m g w (κ j)) (hf : ∀ g j, Free d S g (κ j)) (hi : ∀ i j, κ i = κ j → i = j)
  (h6 : ∀ i j, κ i ≠ Key.tm d t j) (h7 : ∀ i b j g, κ i ≠ ckey d g b j) (hs : A.size = cs.length) (hc : ∀ j c, cs[j]? = some c → ∃ u, A[j]? = some u ∧ RepC g w (κ j) c u)
  (hr : r = .ok (.value (.pointer (some ⟨w.heap.size, 0, none⟩))) (w.alloc (.cells A ty))) : Ran d nt e S.mm.length (newVar F t cs S) g a w t r := by
 unfold newVar
 cases hb : F.e && F.esc t with
 | false =>
  simp only [cond_false]
  -- a block, the owned lists go to its cells
  have h1 := h.noR.alloc (.cells A ty) (.loc d t) (fun _ _ hh => by simp at hh)
  have k1 := keep_alloc h.wf (.cells A ty) (.loc d t)
  obtain ⟨g2, h2, h3, h4, h5, h8, h9, h10⟩ := h1.moveCells (m := S.mm.length) cs (fun j => (A[j]?).getD undef) κ (fun j => .lc d t j) (fun j => by
    have := hm S.mm.length (g.new w.heap.size (.loc d t)) j
    cases hk : κ j <;> rw [hk] at this <;> first | exact this | (exact ⟨this.1, by rw [alloc_size]; have := this.2; omega⟩)) (fun j => Nat.le_refl d) (fun j _ => by
    have := hf (g.new w.heap.size (.loc d t)) j
    exact ⟨this.tm, this.lc, this.mm, this.vl⟩) hi (fun i j => h7 i (.loc t) j g) (fun j c hj => by
    obtain ⟨u, h11, h12⟩ := hc j c hj
    simp only [h11, Option.getD_some]
    exact h12.keep k1 fun _ _ _ => id)
  have hown : g2.own w.heap.size = some (.loc d t) := (h10.own _ _ (by simp [G.new]) fun ⟨j, hj⟩ => by have := hm 0 g j; rw [← hj] at this; exact this.elim).1
  have h11 := h2.newLoc (t := t) (b := w.heap.size) (cs := cs) (C := A) (E := ty) hown (heap_alloc_new w _) ⟨hs, fun j c hj => by
   obtain ⟨u, h12, _⟩ := hc j c hj
   have := h9 j c hj
   simp only [h12, Option.getD_some] at this
   exact ⟨u, h12, this⟩⟩
  have h12 := h11.setT (t := t) (p := .ad (.loc t) 0) (v := .pointer (some ⟨w.heap.size, 0, none⟩)) ht (by simp [RepT, RepV, G.lab])
  refine ⟨_, _, _, hr, h12, ?_⟩
  have e1 := (ext_alloc (d := d) h.wf S.mm.length (.cells A ty) (.loc d t)).trans' h3 rfl rfl
  exact ⟨e1.gr.trans ⟨fun _ _ h => h, Nat.le_refl _, fun _ _ => rfl, fun _ _ _ => rfl, rfl, fun _ _ => rfl⟩, e1.own, e1.hs, e1.nw, e1.sl⟩
 | true =>
  simp only [cond_true]
  simp only [Bool.and_eq_true] at hb
  have hen : e = none := by
   have := hF ▸ hb.1
   cases e <;> simp_all
  subst hen
  have he : S.mm.length = g.no := h.no
  have h1 := h.noR.alloc (.cells A ty) .obj (fun _ _ hh => by simp at hh)
  have k1 := keep_alloc h.wf (.cells A ty) .obj
  have hfresh : ∀ i, i < g.no → g.oa i ≠ w.heap.size := fun i hi => by have := h.wf.ol i hi; omega
  have hown0 : (g.new w.heap.size .obj).own w.heap.size = some .obj := by simp [G.new]
  -- the object without its owned lists first
  have h2 := h1.newObj (b := w.heap.size) (cs := cs.map fun c => bif isOl c then .gone else c) (C := A) (E := ty) he hown0 hfresh (heap_alloc_new w _) ⟨by simpa using hs, fun j c hj => by
   simp only [List.getElem?_map, Option.map_eq_some_iff] at hj
   obtain ⟨c', hj', rfl⟩ := hj
   obtain ⟨u, h3, h4⟩ := hc j c' hj'
   refine ⟨u, h3, ?_⟩
   cases ho : isOl c' with
   | true => trivial
   | false => exact notOl_key ho (h4.keep k1 fun _ _ _ => id)⟩
  have k2 := keep_obj (g.new w.heap.size .obj) w.heap.size ty (fun C hh => by have := (Array.getElem?_eq_some_iff.1 (h.wf.fz _ C hh).2).1; omega) hfresh (w.alloc (.cells A ty))
  obtain ⟨g2, h3, h4, h5, h8, h9, h10, h11⟩ := h2.moveCells (m := S.mm.length + 1) cs (fun j => (A[j]?).getD undef) κ (fun j => .ob w.heap.size j) (fun j => by
    have := hm (S.mm.length + 1) ((g.new w.heap.size .obj).obj w.heap.size ty) j
    cases hk : κ j <;> rw [hk] at this <;> first | exact this | (exact ⟨this.1, by rw [alloc_size]; have := this.2; omega⟩))
   (fun j => ⟨⟨S.mm.length, Nat.lt_succ_self _, by simp [G.obj, G.new, he]⟩, by rw [alloc_size]; omega⟩) (fun j _ => by
    have := hf ((g.new w.heap.size .obj).obj w.heap.size ty) j
    refine ⟨this.tm, this.lc, fun k cs2 j' c hk => ?_, this.vl⟩
    exact absurd hk (h7 j (.obj k) j' _)) hi (fun i j hh => h7 i (.obj g.no) j ((g.new w.heap.size .obj).obj w.heap.size ty) (by rw [hh]; simp [ckey, G.obj, G.new])) (fun j c hj => by
    obtain ⟨u, h12, h13⟩ := hc j c hj
    simp only [h12, Option.getD_some]
    exact (h13.keep k1 fun _ _ _ => id).keep k2 fun _ _ _ => id)
  -- now with them
  have hi2 : (S.mm ++ [cs.map fun c => bif isOl c then PV.gone else c])[S.mm.length]? = some (cs.map fun c => bif isOl c then PV.gone else c) := by
   rw [List.getElem?_append_right (Nat.le_refl _)]; simp
  have hoa : g2.oa S.mm.length = w.heap.size := by rw [h5]; simp [G.obj, G.new, he]
  have h12 := h3.store (hE := ⟨A, by simp only [G.addr, hoa]; exact heap_alloc_new w _⟩) (b := .obj S.mm.length) (cs' := cs) (C' := A) (E := ty) (w' := w.alloc (.cells A ty)) hi2 rfl (fun _ _ => rfl) rfl (by simp only [G.addr, hoa]; exact heap_alloc_new w _) ⟨hs, fun j c hj => by
   obtain ⟨u, h13, _⟩ := hc j c hj
   have := h10 j c hj
   simp only [h13, Option.getD_some] at this
   refine ⟨u, h13, ?_⟩
   simp only [ckey, hoa]; exact this⟩
  have h13 : Rel d nt none { tm := S.tm, lc := S.lc, mm := S.mm ++ [cs], rt := [], vl := S.vl } g2 a (w.alloc (.cells A ty)) := by
   refine h12.1.congr (fun _ => rfl) (fun _ => rfl) ?_ rfl
   show S.mm ++ [cs] = (S.mm ++ [_]).set S.mm.length cs
   rw [List.set_append_right _ _ (Nat.le_refl _)]
   simp
  have h14 := h13.setT (t := t) (p := .ad (.obj S.mm.length) 0) (v := .pointer (some ⟨w.heap.size, 0, none⟩)) ht (by
   have hlt : S.mm.length < g2.no := by rw [h8]; simp [G.obj, G.new, he]
   have := RepF.ad (g := g2) S.mm.length 0 hlt
   rw [hoa] at this; exact this)
  refine ⟨g2, _, _, hr, h14, ?_⟩
  have e1 := ext_alloc (d := d) h.wf S.mm.length (.cells A ty) .obj
  refine ⟨e1.gr.trans (k2.gr.trans h11.gr), fun b k hb' hout => ?_, e1.hs, fun i hi1 hi2 => ?_, e1.sl⟩
  ·obtain ⟨h15, h16⟩ := e1.own b k hb' hout
   obtain ⟨h17, _⟩ := h11.own b k h15 fun ⟨j, hj⟩ => by
    have := hm S.mm.length g j
    rw [← hj] at this
    exact this.out b hout
   exact ⟨h17, h16⟩
  ·rw [h8] at hi2
   have : i = S.mm.length := by simp only [G.obj, G.new] at hi2; omega
   subst this
   rw [hoa]; exact Nat.le_refl _
end
end
section
section
variable [Enc] {d nt : Nat} {e : Option Nat} {S : St} {g g' : G} {a : Act} {w w' : World} {P : Program}
theorem markO_ran {F : Fx} {t ty U m : Nat} {cs : List PV} {A : Array Value} {r : Result Next} (hsz : a.tmps.size = nt) (ht : t < nt) (hb : (F.e && F.esc t) = true) (hrun : r = .ok (.value (.pointer (some ⟨w.heap.size, 0, none⟩))) (w.alloc (.cells A ty)))
  (key : Ran d nt e m (Go.KM.newVar F t cs S) g a w t r) : Ran d nt e m (markO ty U (Go.KM.newVar F t cs S)) g a w t r := by exact key
theorem box_ran {F : Fx} {t ty : Nat} {x : Operand} {S' : St} (hF : F.e = e.isNone) (ht : t < nt) (h : Rel d nt e S g a w) (ho : opBox F t ty x S = some S') {o : Oper} (hop : o.op = .box ty x) :
  Ran d nt e S.mm.length S' g a w t ((execOp a.eval o).run P w) := by
 unfold opBox at ho
 split at ho
 ·rename_i p S1 hx
  cases hg : (Nat.beq p.cs.length (F.T.cz ty) && p.cs.all PV.okc && Nat.blt 0 (F.T.cz ty) && notT t x) with
  | false => simp only [hg, cond_false, reduceCtorEq] at ho
  | true =>
   simp only [hg, cond_true, Option.some.injEq] at ho
   subst ho
   simp only [Bool.and_eq_true] at hg
   obtain ⟨⟨⟨h1, h2⟩, h3⟩, h4⟩ := hg
   obtain ⟨κ, k1, k2, k3, k4, k5, k6, k7, k8, k9, k10⟩ := takeO_rep h hx h4
   obtain ⟨h5, h6⟩ := repT_cells k2 h2
   have hrun : (execOp a.eval o).run P w = .ok (.value (.pointer (some ⟨w.heap.size, 0, none⟩))) (w.alloc (.cells (a.eval x).cells ty)) := by
    simp [execOp, hop, Instr.box, Go.newVar, newRow]
   have key := newVar_ran (A := (a.eval x).cells) (ty := ty) hF ht k1 k3 k4 k5 k6 k7 h5 (fun j c hj => let ⟨u, h7, h8, _⟩ := h6 j c hj; ⟨u, h7, h8⟩) hrun
   have hmm : S.mm.length = S1.mm.length := by rw [k8]
   rw [hmm]
   cases hb : F.T.sf ty && (F.e && F.esc t) with
   | false => simp only [cond_false]; exact key
   | true =>
    simp only [cond_true]
    simp only [Bool.and_eq_true] at hb
    exact markO_ran (U := F.T.se ty) h.sz ht (by simp [hb.2]) hrun key
 ·simp at ho
theorem alloc_ran {F : Fx} (hT : TabOk P F.T) {t ty : Nat} {S' : St} (hF : F.e = e.isNone) (ht : t < nt) (h : Rel d nt e S g a w) (ho : opAlloc F t ty S = some S') {o : Oper} (hop : o.op = .alloc ty) :
  Ran d nt e S.mm.length S' g a w t ((execOp a.eval o).run P w) := by
 unfold opAlloc at ho
 split at ho
 ·rename_i z hz
  simp only [Option.some.injEq] at ho
  subst ho
  obtain ⟨i, v, h1, h2, h3, h4, h5, h6, h7, h8⟩ := hT.zr _ _ hz
  have hrun : (execOp a.eval o).run P w = .ok (.value (.pointer (some ⟨w.heap.size, 0, none⟩))) (w.alloc (.cells v.cells ty)) := by
   simp [execOp, hop, Instr.alloc, zeroValue, typeInfo, h1, h2, Go.newVar, newRow]
  have key : Ran d nt e S.mm.length (Go.KM.newVar F t z S) g a w t ((execOp a.eval o).run P w) := by
   refine newVar_ran (A := v.cells) (ty := ty) (κ := fun j => .ar d j) hF ht h (fun _ _ _ => Nat.le_refl d) (fun g j => ⟨fun _ _ _ hk => by simp at hk, fun _ _ _ _ hk => by simp at hk, fun _ _ _ _ hk => by simp at hk, fun _ _ hk => by simp at hk⟩)
    (fun i j hij => by simpa using hij) (fun i j => by simp) (fun i b j g => by cases b <;> simp [ckey]) h4 (fun j c hj => ?_) hrun
   obtain ⟨u, h9, h10⟩ := h6 g j c hj
   exact ⟨u, by simpa using h9, (plain_key (all_plain h5 hj)).2 h10⟩
  cases hb : F.T.sf ty && (F.e && F.esc t) with
  | false => exact key
  | true =>
   simp only [Bool.and_eq_true] at hb
   exact markO_ran (U := F.T.se ty) h.sz ht (by simp [hb.2]) hrun key
 ·simp at ho
theorem fold_cells (off : Nat) : ∀ (l : List (Value × Nat)) (A : Array Value), (l.foldl (fun cs (c, j) => cs.setIfInBounds (off + j) c) A).size = A.size := by
 intro l
 induction l with
 | nil => intro A; rfl
 | cons x l ih => intro A; rw [List.foldl_cons, ih]; simp
theorem fold_get (off : Nat) : ∀ (l : List Value) (s : Nat) (A : Array Value), off + s + l.length ≤ A.size → ∀ k,
  ((l.zipIdx s).foldl (fun cs (c, j) => cs.setIfInBounds (off + j) c) A)[k]? = if off + s ≤ k ∧ k < off + s + l.length then l[k - (off + s)]? else A[k]? := by
 intro l
 induction l with
 | nil => intro s A _ k; simp; omega
 | cons v l ih =>
  intro s A hl k
  simp only [List.zipIdx_cons, List.foldl_cons, List.length_cons] at hl ⊢
  rw [ih (s + 1) _ (by simp; omega) k]
  by_cases h1 : k = off + s
  ·subst h1
   have h2 : ¬ (off + (s + 1) ≤ off + s ∧ off + s < off + (s + 1) + l.length) := by omega
   have h3 : off + s ≤ off + s ∧ off + s < off + s + (l.length + 1) := by omega
   rw [if_neg h2, if_pos h3, Array.getElem?_setIfInBounds]
   have h4 : off + s < A.size := by omega
   simp [h4]
  ·by_cases h2 : off + (s + 1) ≤ k ∧ k < off + (s + 1) + l.length
   ·have h3 : off + s ≤ k ∧ k < off + s + (l.length + 1) := by omega
    rw [if_pos h2, if_pos h3]
    have : k - (off + s) = (k - (off + (s + 1))) + 1 := by omega
    rw [this, List.getElem?_cons_succ]
   ·have h3 : ¬ (off + s ≤ k ∧ k < off + s + (l.length + 1)) := by omega
    rw [if_neg h2, if_neg h3, Array.getElem?_setIfInBounds]
    have : ¬ off + s = k := by omega
    simp [this]
theorem fill_get (off : Nat) (V A : Array Value) (h : off + V.size ≤ A.size) (k : Nat) :
  (V.zipIdx.foldl (fun cs (x : Value × Nat) => cs.setIfInBounds (off + x.2) x.1) A)[k]? = if off ≤ k ∧ k < off + V.size then V[k - off]? else A[k]? := by
 have := fold_get off V.toList 0 A (by simpa using h) k
 simp only [Nat.add_zero, Array.length_toList] at this
 rw [← Array.foldl_toList, Array.toList_zipIdx]
 simpa using this
theorem fill_size (off : Nat) (V A : Array Value) : (V.zipIdx.foldl (fun cs (x : Value × Nat) => cs.setIfInBounds (off + x.2) x.1) A).size = A.size := by
 have := fold_cells off V.zipIdx.toList A
 rw [← Array.foldl_toList]; exact this
theorem fillP_rep {F : Fx} {t T : Nat} {place : Nat → Option (Nat × Nat)} (hpl : ∀ f o n, F.T.off T f = some (o, n) → place f = some (o, n)) : ∀ (ps : List (Nat × Operand)) (cs : List PV) (S : St) (g : G) (A : Array Value) (cs' : List PV) (S' : St),
  Rel d nt e S g a w → A.size = cs.length → (∀ j c, cs[j]? = some c → ∃ u, A[j]? = some u ∧ RepC g w (.tm d t j) c u) → fillP F t T ps cs S = some (cs', S') →
  ∃ g' A', Instr.fill place A (ps.map fun q => (q.1, a.eval q.2)) = some A' ∧ Rel d nt e S' g' a w ∧ Ext d S.mm.length g w g' w ∧ g'.oa = g.oa ∧ g'.no = g.no ∧ A'.size = cs'.length ∧
   (∀ j c, cs'[j]? = some c → ∃ u, A'[j]? = some u ∧ RepC g' w (.tm d t j) c u) ∧ S'.mm = S.mm := by
 intro ps
 induction ps with
 | nil =>
  intro cs S g A cs' S' h hs hr ho
  simp only [fillP, Option.some.injEq, Prod.mk.injEq] at ho
  obtain ⟨rfl, rfl⟩ := ho
  exact ⟨g, A, rfl, h, .refl _ _ _ _, rfl, rfl, hs, hr, rfl⟩
 | cons q r ih =>
  intro cs S g A cs' S' h hs hr ho
  obtain ⟨f, x⟩ := q
  simp only [fillP] at ho
  split at ho
  ·rename_i of n p S1 hoff hx
   cases hg : (Nat.beq p.cs.length n && p.cs.all PV.okc && Nat.ble (of + n) cs.length && notT t x && (part cs of n).all PV.plain) with
   | false => simp only [hg, cond_false, reduceCtorEq] at ho
   | true =>
    simp only [hg, cond_true] at ho
    simp only [Bool.and_eq_true] at hg
    obtain ⟨⟨⟨⟨h1, h2⟩, h3⟩, h4⟩, h5⟩ := hg
    have h1 := Nat.eq_of_beq_eq_true h1
    have h3 := Nat.le_of_ble_eq_true h3
    obtain ⟨κ, k1, k2, k3, k4, k5, k6, k7, k8, k9, k10⟩ := takeO_rep h hx h4
    obtain ⟨h6, h7⟩ := repT_cells k2 h2
    obtain ⟨g1, m1, m2, m3, m4, m5, m6, m7⟩ := k1.moveCells (m := S.mm.length) p.cs (fun j => ((a.eval x).cells[j]?).getD undef) κ (fun j => .tm d t (of + j)) (fun j => k3 _ _ j) (fun j => Nat.le_refl d) (fun j _ => k4 g j) k5 (fun i j => k6 i _) (fun j c hj => by
     obtain ⟨u, h8, h9, _⟩ := h7 j c hj
     simp only [h8, Option.getD_some]; exact h9)
    have hfit : of + (a.eval x).cells.size ≤ A.size := by rw [h6, hs, h1]; exact h3
    have hle : of + p.cs.length ≤ cs.length := by rw [h1]; exact h3
    have hrec := ih (splice cs of p.cs) S1 g1 ((a.eval x).cells.zipIdx.foldl (fun cs (x : Value × Nat) => cs.setIfInBounds (of + x.2) x.1) A) cs' S' m1 (by rw [fill_size, hs, splice_len hle]) (fun j c hj => by
     rw [splice_get hle] at hj
     rw [fill_get of _ A hfit, h6]
     by_cases hjj : of ≤ j ∧ j < of + p.cs.length
     ·rw [if_pos hjj] at hj ⊢
      obtain ⟨u, h8, _⟩ := h7 _ c hj
      have h9 := m6 _ c hj
      simp only [h8, Option.getD_some] at h9
      have e1 : of + (j - of) = j := by omega
      rw [e1] at h9
      exact ⟨u, h8, h9⟩
     ·rw [if_neg hjj] at hj ⊢
      obtain ⟨u, h8, h9⟩ := hr j c hj
      exact ⟨u, h8, h9.keep m7 fun _ _ _ ⟨i, hi⟩ => k6 i j hi.symm⟩) ho
    obtain ⟨g2, A', r1, r2, r3, r4, r5, r6, r7, r8⟩ := hrec
    refine ⟨g2, A', ?_, r2, m2.trans' (by rw [k8] at r3; exact r3) m3 m4, r4.trans m3, r5.trans m4, r6, r7, r8.trans k8⟩
    simp only [List.map_cons, Instr.fill, hpl f of n hoff]
    have hc1 : ¬ ((a.eval x).cells.size ≠ n ∨ of + (a.eval x).cells.size > A.size) := by
     rintro (hh | hh)
     ·exact hh (h6.trans h1)
     ·omega
    simp only [ne_eq, Bool.or_eq_true, decide_eq_true_eq] at hc1 ⊢
    rw [if_neg (by simpa using hc1)]
    exact r1
  ·simp at ho
theorem build_ran {F : Fx} (hT : TabOk P F.T) {t T : Nat} {ps : Array (Nat × Operand)} {S' : St} (ht : t < nt) (h : Rel d nt e S g a w) (ho : opBuild F t T ps.toList S = some S') {o : Oper} (hop : o.op = .build T ps) :
  Ran d nt e S.mm.length S' g a w t ((execOp a.eval o).run P w) := by
 unfold opBuild at ho
 split at ho
 ·rename_i z hz hK
  split at ho
  ·rename_i cs' S1 hf
   simp only [Option.some.injEq] at ho
   subst ho
   obtain ⟨i, v, h1, h2, h3, h4, h5, h6, h7, h8⟩ := hT.zr _ _ hz
   have hK' : F.T.K T = .struct := by cases hk : F.T.K T <;> simp [hk, isAggK] at hK <;> rfl
   obtain ⟨i', fs, places, b1, b2, b3, b4⟩ := hT.bld _ _ hz hK'
   rw [h1] at b1
   simp only [Option.some.injEq] at b1
   subst b1
   obtain ⟨g1, A', r1, r2, r3, r4, r5, r6, r7, r8⟩ := fillP_rep (place := (places.toArray[·]?)) b4 ps.toList z S g v.cells cs' S1 h h4 (fun j c hj => by
    obtain ⟨u, h9, h10⟩ := h6 g j c hj
    exact ⟨u, by simpa using h9, (plain_key (all_plain h5 hj)).2 h10⟩) hf
   have hbuilt : P.built T (ps.map fun x => (x.1, a.eval x.2)).toList = some A' := by
    simp only [Program.built, h1, b2, h2, b3, Array.toList_map]
    exact r1
   refine ⟨g1, .agg A', w, ?_, r2.setT ht ⟨A', rfl, r6, r7⟩, r3⟩
   simp [execOp, hop, run_build w T _ A' hbuilt]
  ·simp at ho
 ·simp at ho
end
end
end Go.KM
