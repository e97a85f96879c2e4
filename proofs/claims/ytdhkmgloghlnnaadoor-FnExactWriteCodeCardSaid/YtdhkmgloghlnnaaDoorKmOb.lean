/- Lists that are lent to a callee which writes into them. Conditions: none. -/
import Derived.Test.YtdhkmgloghlnnaaDoorKmO
namespace Go.KM
open Go
open Fam (Dn dflt)
open Enc (cells sz mkE glob gany u8)
set_option autoImplicit false
set_option linter.unusedVariables false
set_option linter.unusedSimpArgs false
set_option linter.unusedSectionVars false
section
variable [Enc] {d nt : Nat} {e : Option Nat} {S : St} {g g' : G} {a : Act} {w w' : World} {P : Program}
structure Same (g g' : G) : Prop where
  fz : g'.fz = g.fz
  own : g'.own = g.own
  lb : g'.lb = g.lb
theorem Same.symm {g g' : G} (h : Same g g') : Same g' g := ⟨h.fz.symm, h.own.symm, h.lb.symm⟩
section
variable (hnob : ∀ (T : Nat) (x : Dn T), (cells T x).all PV.nob1 = true)
include hnob
theorem nob_F {g g' : G} (hs : Same g g') {p : PV} {v : Value} (h : RepF g p v) : p.nob1 = true → RepF g' p v := by
  induction h with
  | b x => exact fun _ => .b x
  | i k n => exact fun _ => .i k n
  | s x => exact fun _ => .s x
  | nl => exact fun _ => .nl
  | np => exact fun _ => .np
  | ad i off h => exact fun hp => by simp [PV.nob1] at hp
  | fl0 T => exact fun _ => .fl0 T
  | ifcN => exact fun _ => .ifcN
  | ifcS t x => exact fun _ => .ifcS t x
  | clo f caps h => exact fun hp => by simp [PV.nob1] at hp
  | vo i A n c h => exact fun hp => by simp [PV.nob1] at hp
  | fa T x off bk o C V hf hv hr ih =>
    intro _
    refine .fa T x off bk o C V (by rw [hs.fz]; exact hf) hv fun j c hj => ih j c hj ?_
    have := hnob T x
    rw [List.all_eq_true] at this
    exact this c (List.mem_of_getElem? hj)
  | fpN T => exact fun _ => .fpN T
  | fpS T x v h ih => exact fun _ => .fpS T x v (ih rfl)
  | foN T => exact fun _ => .foN T
  | zf => exact fun _ => .zf
  | zm => exact fun _ => .zm
  | slf T i b hT h => exact fun hp => by simp [PV.nob1] at hp
  | foS T xs v h ih => exact fun _ => .foS T xs v (ih rfl)
  | fl T xs A off cap C V hf hc hv hr ih =>
    intro _
    refine .fl T xs A off cap C V (fun hx => ?_) hc hv fun i x hi j c hj => ih i x hi j c hj ?_
    · rw [hs.fz]; exact hf hx
    · have := hnob T x
      rw [List.all_eq_true] at this
      exact this c (List.mem_of_getElem? hj)
theorem nob_cells {g g' : G} (hs : Same g g') {C : Array Value} {o : Nat} {cs : List PV} (hn : cs.all PV.nob1 = true) (h : CellsAt g C o cs) : CellsAt g' C o cs := by
  intro j c hj
  obtain ⟨u, h1, h2⟩ := h j c hj
  rw [List.all_eq_true] at hn
  exact ⟨u, h1, nob_F hnob hs h2 (hn c (List.mem_of_getElem? hj))⟩
theorem nob_C {g g' : G} (hs : Same g g') {w : World} {κ : Key} {p : PV} {v : Value} (hn : p.nob1 = true) (h : RepC g w κ p v) : RepC g' w κ p v := by
  cases p with
  | ol T xs =>
    obtain ⟨ws, h1, h2, h3⟩ := h
    refine ⟨ws, ?_, ?_, ?_⟩
    · exact h1
    · intro b hb; have := h2 b hb; rw [hs.own]; exact this
    · intro i x hi j c hj
      obtain ⟨u, h4, h5⟩ := h3 i x hi j c hj
      have := hnob T x
      rw [List.all_eq_true] at this
      exact ⟨u, h4, nob_F hnob hs h5 (this c (List.mem_of_getElem? hj))⟩
  | mp U es =>
    obtain ⟨r, ms, ck, h1, h2, h3, h4, h5⟩ := h
    refine ⟨r, ms, ck, h1, by rw [hs.own]; exact h2, h3, h4, fun i x hi => ?_⟩
    obtain ⟨q, a1, a2, c, a3, a4⟩ := h5 i x hi
    have := hnob U x.2
    rw [List.all_eq_true] at this
    exact ⟨q, a1, a2, c, a3, nob_F hnob hs a4 (this c (by rw [a3]; simp))⟩
  | gone => trivial
  | _ => first | exact nob_F hnob hs h hn | (simp [PV.nob1] at hn; done) | trivial
theorem nob_V {g g' : G} (hs : Same g g') {w : World} {κ : Key} {p : PV} {v : Value} (hn : p.nob = true) (h : RepV g w κ p v) : RepV g' w κ p v := by
  cases p with
  | st cs =>
    obtain ⟨A, h1, h2, h3⟩ := h
    exact ⟨A, h1, h2, nob_cells hnob hs hn h3⟩
  | fa T x off => exact nob_C (w := w) (κ := κ) hnob hs (p := .fa T x off) hn h
  | fp T x => exact nob_C (w := w) (κ := κ) hnob hs (p := .fp T x) hn h
  | fo T x => exact nob_C (w := w) (κ := κ) hnob hs (p := .fo T x) hn h
  | zo k => exact nob_C (w := w) (κ := κ) hnob hs (p := .zo k) hn h
  | slf T i b => simp [PV.nob, PV.nob1] at hn
  | ad b off => simp [PV.nob, PV.nob1] at hn
  | tup vs => exact (show False by have h : RepF g (.tup vs) v := h; cases h).elim
  | clo f caps => simp [PV.nob, PV.nob1] at hn
  | vo i => simp [PV.nob, PV.nob1] at hn
  | b x => exact nob_C (w := w) (κ := κ) hnob hs (p := .b x) hn h
  | i k n => exact nob_C (w := w) (κ := κ) hnob hs (p := .i k n) hn h
  | s x => exact nob_C (w := w) (κ := κ) hnob hs (p := .s x) hn h
  | nl => exact nob_C (w := w) (κ := κ) hnob hs (p := .nl) hn h
  | np => exact nob_C (w := w) (κ := κ) hnob hs (p := .np) hn h
  | ol T xs => exact nob_C (w := w) (κ := κ) hnob hs (p := .ol T xs) hn h
  | mp U es => exact nob_C (w := w) (κ := κ) hnob hs (p := .mp U es) hn h
  | fl T xs => exact nob_C (w := w) (κ := κ) hnob hs (p := .fl T xs) hn h
  | ifc x => exact nob_C (w := w) (κ := κ) hnob hs (p := .ifc x) hn h
  | gone => trivial
theorem nob_E {g g' : G} (hs : Same g g') {w : World} {κ : Nat → Key} {p : PV} {v : Value} (hn : (match p with
    | .st cs => cs.all PV.nob1
    | p => p.nob1) = true) (h : RepE g w κ p v) : RepE g' w κ p v := by
  cases p with
  | st cs =>
    obtain ⟨A, h1, h2, h3⟩ := h
    refine ⟨A, h1, h2, fun j c hj => ?_⟩
    obtain ⟨u, h4, h5⟩ := h3 j c hj
    rw [List.all_eq_true] at hn
    exact ⟨u, h4, nob_C hnob hs (hn c (List.mem_of_getElem? hj)) h5⟩
  | ad b off => simp [PV.nob1] at hn
  | clo f caps => simp [PV.nob1] at hn
  | vo i => simp [PV.nob1] at hn
  | tup vs => exact (show False by have h : RepF g (.tup vs) v := h; cases h).elim
  | gone => trivial
  | b x => exact nob_V (w := w) (κ := κ 0) hnob hs (p := .b x) hn h
  | i k n => exact nob_V (w := w) (κ := κ 0) hnob hs (p := .i k n) hn h
  | s x => exact nob_V (w := w) (κ := κ 0) hnob hs (p := .s x) hn h
  | nl => exact nob_V (w := w) (κ := κ 0) hnob hs (p := .nl) hn h
  | np => exact nob_V (w := w) (κ := κ 0) hnob hs (p := .np) hn h
  | ol T xs => exact nob_V (w := w) (κ := κ 0) hnob hs (p := .ol T xs) hn h
  | mp U es => exact nob_V (w := w) (κ := κ 0) hnob hs (p := .mp U es) hn h
  | fl T xs => exact nob_V (w := w) (κ := κ 0) hnob hs (p := .fl T xs) hn h
  | ifc x => exact nob_V (w := w) (κ := κ 0) hnob hs (p := .ifc x) hn h
  | fa T x off => exact nob_V (w := w) (κ := κ 0) hnob hs (p := .fa T x off) hn h
  | fp T x => exact nob_V (w := w) (κ := κ 0) hnob hs (p := .fp T x) hn h
  | fo T x => exact nob_V (w := w) (κ := κ 0) hnob hs (p := .fo T x) hn h
  | zo k => exact nob_V (w := w) (κ := κ 0) hnob hs (p := .zo k) hn h
  | slf T i b => simp [PV.nob, PV.nob1] at hn
theorem nob_T {g g' : G} (hs : Same g g') {w : World} {κ : Nat → Key} {p : PV} {v : Value} (hn : p.nob = true) (h : RepT g w κ p v) : RepT g' w κ p v := by
  cases p with
  | tup vs =>
    obtain ⟨A, h1, h2, h3⟩ := h
    refine ⟨A, h1, h2, fun i p hi => ?_⟩
    obtain ⟨u, h4, h5⟩ := h3 i p hi
    refine ⟨u, h4, nob_E hnob hs ?_ h5⟩
    have hn : (vs.all fun p => match p with
      | .st cs => cs.all PV.nob1
      | p => p.nob1) = true := hn
    rw [List.all_eq_true] at hn
    exact hn p (List.mem_of_getElem? hi)
  | st cs =>
    obtain ⟨A, h1, h2, h3⟩ := h
    refine ⟨A, h1, h2, fun j c hj => ?_⟩
    obtain ⟨u, h4, h5⟩ := h3 j c hj
    have hn : cs.all PV.nob1 = true := hn
    rw [List.all_eq_true] at hn
    exact ⟨u, h4, nob_C hnob hs (hn c (List.mem_of_getElem? hj)) h5⟩
  | b x => exact nob_V (w := w) (κ := κ 0) hnob hs (p := .b x) hn h
  | i k n => exact nob_V (w := w) (κ := κ 0) hnob hs (p := .i k n) hn h
  | s x => exact nob_V (w := w) (κ := κ 0) hnob hs (p := .s x) hn h
  | nl => exact nob_V (w := w) (κ := κ 0) hnob hs (p := .nl) hn h
  | np => exact nob_V (w := w) (κ := κ 0) hnob hs (p := .np) hn h
  | ol T xs => exact nob_V (w := w) (κ := κ 0) hnob hs (p := .ol T xs) hn h
  | mp U es => exact nob_V (w := w) (κ := κ 0) hnob hs (p := .mp U es) hn h
  | fl T xs => exact nob_V (w := w) (κ := κ 0) hnob hs (p := .fl T xs) hn h
  | ifc x => exact nob_V (w := w) (κ := κ 0) hnob hs (p := .ifc x) hn h
  | fa T x off => exact nob_V (w := w) (κ := κ 0) hnob hs (p := .fa T x off) hn h
  | fp T x => exact nob_V (w := w) (κ := κ 0) hnob hs (p := .fp T x) hn h
  | fo T x => exact nob_V (w := w) (κ := κ 0) hnob hs (p := .fo T x) hn h
  | zo k => exact nob_V (w := w) (κ := κ 0) hnob hs (p := .zo k) hn h
  | slf T i b => simp [PV.nob, PV.nob1] at hn
  | ad b off => simp [PV.nob, PV.nob1] at hn
  | clo f caps => simp [PV.nob, PV.nob1] at hn
  | vo i => simp [PV.nob, PV.nob1] at hn
  | gone => trivial
theorem nob_gl {g g' : G} (hs : Same g g') (h : GlobOk g) : GlobOk g' := by
  refine ⟨fun n T x hn => ?_, fun n k hn => ?_⟩
  · obtain ⟨C, h1, h2, h3⟩ := h.is n T x hn
    exact ⟨C, by rw [hs.fz]; exact h1, h2, nob_cells hnob hs (hnob T x) h3⟩
  · obtain ⟨C, m, h1, h2⟩ := h.any n k hn
    exact ⟨C, m, by rw [hs.fz]; exact h1, h2⟩
end
def wkey (d : Nat) : WS → Key
  | .all t => .tm d t 0
  | .cell t j => .tm d t j
  | .vl i => .vo d i
def hdrW (g : G) (a : Act) : WS → Value
  | .all t => a.tmps.getD t undef
  | .cell t j => ((a.tmps.getD t undef).cells[j]?).getD undef
  | .vl i => (g.va i).getD undef
def WS.lt (nt : Nat) : WS → Prop
  | .all t | .cell t _ => t < nt
  | .vl _ => True
def isSlice (v : Value) : Prop := ∃ A n c, v = .slice A n c
theorem repC_T0 {κ : Nat → Key} {p : PV} {v : Value} (h : RepC g w (κ 0) p v) : RepT g w κ p v := by
  cases p with
  | st cs => exact (show False by have h : RepF g (.st cs) v := h; cases h).elim
  | tup vs => exact (show False by have h : RepF g (.tup vs) v := h; cases h).elim
  | ad b off => cases b with
    | loc t => exact (show False by have h : RepF g (.ad (.loc t) off) v := h; cases h).elim
    | obj i => exact h
  | _ => exact h
theorem wSet1_rel (h : Rel d nt e S g a w) (hr : S.rt = []) (x : WS) {p : PV} (ht : x.lt nt) (hp : RepC g w (wkey d x) p (hdrW g a x)) (hv : ∀ i, x = .vl i → ∃ v, g.va i = some v) :
    Rel d nt e (wSet1 S x p) g a w ∧ (wSet1 S x p).rt = [] ∧ (wSet1 S x p).mm = S.mm ∧ (wSet1 S x p).lc = S.lc := by
  have tmc : ∀ {t : Nat} {q : PV}, t < nt → RepT g w (Key.tm d t) q (a.tmps.getD t undef) → Rel d nt e { S with tm := (t, q) :: S.tm } g a w := fun {t q} ht hq =>
    (h.setT' (a' := a) (t := t) (p := q) ht rfl rfl (fun _ _ => rfl) hq).congr (fun _ => rfl) (fun _ => rfl) rfl (by simp [St.setT, hr, dropR])
  cases x with
  | all t => exact ⟨tmc ht (repC_T0 hp), hr, rfl, rfl⟩
  | cell t j =>
    simp only [wSet1]
    split
    · rename_i cs hl
      refine ⟨tmc ht ?_, hr, rfl, rfl⟩
      obtain ⟨A, h1, h2, h3⟩ := (h.tm t _ hl).2
      refine ⟨A, h1, by rw [List.length_set]; exact h2, fun k c hk => ?_⟩
      rw [List.getElem?_set] at hk
      split at hk
      · rename_i hjk
        split at hk
        · rename_i hlt
          simp only [Option.some.injEq] at hk
          subst hk
          subst hjk
          have hlt' : j < A.size := by omega
          refine ⟨A[j], Array.getElem?_eq_getElem hlt', ?_⟩
          have h5 : hdrW g a (.cell t j) = A[j] := by
            simp only [hdrW, h1, Value.cells]
            rw [Array.getElem?_eq_getElem hlt']; rfl
          rw [h5] at hp
          exact hp
        · simp at hk
      · exact h3 k c hk
    · exact ⟨tmc ht trivial, hr, rfl, rfl⟩
    · exact ⟨h, hr, rfl, rfl⟩
  | vl i =>
    obtain ⟨v, hv⟩ := hv i rfl
    exact ⟨h.vlTo hr fun _ => ⟨v, hv, by have : hdrW g a (.vl i) = v := by simp [hdrW, hv]
                                         rw [this] at hp; exact hp⟩, hr, rfl, rfl⟩
theorem wSet_rel : ∀ (ws : List WS) (cs : List PV) {S : St}, Rel d nt e S g a w → S.rt = [] → (∀ (k : Nat) (x : WS), ws[k]? = some x → x.lt nt ∧ ∀ i, x = WS.vl i → ∃ v, g.va i = some v) → (∀ (k : Nat) (x : WS) (c : PV), ws[k]? = some x → cs[k]? = some c → RepC g w (wkey d x) c (hdrW g a x)) →
    Rel d nt e (wSet S ws cs) g a w ∧ (wSet S ws cs).rt = [] ∧ (wSet S ws cs).mm = S.mm ∧ (wSet S ws cs).lc = S.lc := by
  intro ws
  induction ws with
  | nil => intro cs S h hr _ _; exact ⟨h, hr, rfl, rfl⟩
  | cons x xs ih =>
    intro cs S h hr h1 h2
    cases cs with
    | nil => exact ⟨h, hr, rfl, rfl⟩
    | cons c cs =>
      obtain ⟨k1, k2, k3, k4⟩ := wSet1_rel h hr x (p := c) (h1 0 x rfl).1 (h2 0 x c rfl rfl) (h1 0 x rfl).2
      obtain ⟨j1, j2, j3, j4⟩ := ih cs k1 k2 (fun k y hy => h1 (k + 1) y hy) (fun k y c' hy hc => h2 (k + 1) y c' hy hc)
      exact ⟨j1, j2, j3.trans k3, j4.trans k4⟩
def WOff (S : St) : WS → Prop
  | .all t => ∀ p, lk S.tm t = some p → olT p 0 = false
  | .cell t j => ∀ p, lk S.tm t = some p → olT p j = false
  | .vl i => ∀ p, S.vl[i]? = some p → isOl p = false
theorem olT_set {cs : List PV} {j k : Nat} (h : olT (.st cs) k = false) : olT (.st (cs.set j .gone)) k = false := by
  simp only [olT, PV.keys] at h ⊢
  rw [List.getElem?_set]
  by_cases hjk : j = k
  · subst hjk
    by_cases hlt : j < cs.length
    · simp [hlt, isOl, isLs]
    · simp [hlt]
  · simp only [if_neg hjk]; exact h
theorem wSet1_off (S : St) (x : WS) : WOff (wSet1 S x .gone) x := by
  cases x with
  | all t =>
    intro p hp
    have hp : lk ((t, PV.gone) :: S.tm) t = some p := hp
    rw [lk_cons, if_pos rfl] at hp
    simp only [Option.some.injEq] at hp
    subst hp; rfl
  | cell t j =>
    intro p hp
    simp only [wSet1] at hp
    split at hp
    · rename_i cs hl
      have hp : lk ((t, PV.st (cs.set j .gone)) :: S.tm) t = some p := hp
      rw [lk_cons, if_pos rfl] at hp
      simp only [Option.some.injEq] at hp
      subst hp
      simp only [olT, PV.keys]
      rw [List.getElem?_set, if_pos rfl]
      by_cases hlt : j < cs.length
      · simp [hlt, isOl, isLs]
      · simp [hlt]
    · have hp : lk ((t, PV.gone) :: S.tm) t = some p := hp
      rw [lk_cons, if_pos rfl] at hp
      simp only [Option.some.injEq] at hp
      subst hp; exact olT_gone _
    · rename_i hl
      rw [hl] at hp; simp at hp
  | vl i =>
    intro p hp
    have hp : (S.vl.set i .gone)[i]? = some p := hp
    rw [List.getElem?_set, if_pos rfl] at hp
    split at hp
    · simp only [Option.some.injEq] at hp; rw [← hp]; rfl
    · simp at hp
theorem wSet1_keep {S : St} (x y : WS) (h : WOff S y) : WOff (wSet1 S x .gone) y := by
  have tmc : ∀ {t : Nat} {q : PV} (k : Nat), olT q k = false → ∀ {u : Nat}, (∀ p, lk S.tm u = some p → olT p k = false) → ∀ p, lk ((t, q) :: S.tm) u = some p → olT p k = false := by
    intro t q k hq u hu p hp
    rw [lk_cons] at hp
    split at hp
    · simp only [Option.some.injEq] at hp; subst hp; exact hq
    · exact hu p hp
  cases x with
  | all t =>
    cases y with
    | all u => exact tmc 0 rfl h
    | cell u j => exact tmc j (olT_gone _) h
    | vl i => exact h
  | cell t k =>
    simp only [wSet1]
    split
    · rename_i cs hl
      cases y with
      | all u =>
        intro p hp
        have hq : lk ((t, PV.st (cs.set k .gone)) :: S.tm) u = some p := hp
        rw [lk_cons] at hq
        by_cases htu : t = u
        · rw [if_pos htu] at hq
          simp only [Option.some.injEq] at hq
          rw [← hq]
          exact olT_set (h _ (htu ▸ hl))
        · rw [if_neg htu] at hq
          exact h p hq
      | cell u j =>
        intro p hp
        have hq : lk ((t, PV.st (cs.set k .gone)) :: S.tm) u = some p := hp
        rw [lk_cons] at hq
        by_cases htu : t = u
        · rw [if_pos htu] at hq
          simp only [Option.some.injEq] at hq
          rw [← hq]
          exact olT_set (h _ (htu ▸ hl))
        · rw [if_neg htu] at hq
          exact h p hq
      | vl i => exact h
    · cases y with
      | all u => exact tmc 0 rfl h
      | cell u j => exact tmc j (olT_gone _) h
      | vl i => exact h
    · exact h
  | vl i =>
    cases y with
    | all u => exact h
    | cell u j => exact h
    | vl k =>
      intro p hp
      have hp : (S.vl.set i .gone)[k]? = some p := hp
      rw [List.getElem?_set] at hp
      split at hp
      · split at hp
        · simp only [Option.some.injEq] at hp; rw [← hp]; rfl
        · simp at hp
      · exact h p hp
theorem wSet_off : ∀ (ws : List WS) (S : St), (∀ y, WOff S y → WOff (wSet S ws (ws.map fun _ => .gone)) y) ∧ ∀ x ∈ ws, WOff (wSet S ws (ws.map fun _ => .gone)) x := by
  intro ws
  induction ws with
  | nil => intro S; exact ⟨fun _ h => h, fun x hx => by simp at hx⟩
  | cons z ws ih =>
    intro S
    obtain ⟨h1, h2⟩ := ih (wSet1 S z .gone)
    refine ⟨fun y hy => h1 y (wSet1_keep z y hy), fun x hx => ?_⟩
    rcases List.mem_cons.1 hx with rfl | hx
    · exact h1 _ (wSet1_off S _)
    · exact h2 x hx
theorem off_free {x : WS} (h : WOff S x) : Free d S g (wkey d x) := by
  cases x with
  | all t => exact ⟨fun t' p i hk hl => by simp only [wkey, Key.tm.injEq, true_and] at hk; obtain ⟨rfl, rfl⟩ := hk; exact h p hl, fun _ _ _ _ hk => by simp [wkey] at hk, fun _ _ _ _ hk => by simp [wkey] at hk, fun _ _ hk => by simp [wkey] at hk⟩
  | cell t j => exact ⟨fun t' p i hk hl => by simp only [wkey, Key.tm.injEq, true_and] at hk; obtain ⟨rfl, rfl⟩ := hk; exact h p hl, fun _ _ _ _ hk => by simp [wkey] at hk, fun _ _ _ _ hk => by simp [wkey] at hk, fun _ _ hk => by simp [wkey] at hk⟩
  | vl i => exact ⟨fun _ _ _ hk => by simp [wkey] at hk, fun _ _ _ _ hk => by simp [wkey] at hk, fun _ _ _ _ hk => by simp [wkey] at hk, fun j p hk hj => by simp only [wkey, Key.vo.injEq, true_and] at hk; subst hk; exact h p hj⟩
theorem wDist_inj : ∀ (ws : List WS), wDist ws = true → ∀ (i j : Nat) (x y : WS), ws[i]? = some x → ws[j]? = some y → wkey d x = wkey d y → i = j := by
  have key : ∀ x y : WS, wkey d x = wkey d y → x.same y = true := by
    intro x y hxy
    cases x <;> cases y <;> simp only [wkey, Key.tm.injEq, Key.vo.injEq, true_and, reduceCtorEq, and_true] at hxy <;> simp [WS.same, hxy]
  intro ws
  induction ws with
  | nil => intro _ i j x y hx; simp at hx
  | cons z ws ih =>
    intro hd i j x y hx hy hk
    simp only [wDist, Bool.and_eq_true, Bool.not_eq_true', List.any_eq_false] at hd
    cases i with
    | zero =>
      cases j with
      | zero => rfl
      | succ j =>
        simp only [List.getElem?_cons_zero, Option.some.injEq, List.getElem?_cons_succ] at hx hy
        subst hx
        exact absurd (key _ _ hk) (hd.1 y (List.mem_of_getElem? hy))
    | succ i =>
      cases j with
      | zero =>
        simp only [List.getElem?_cons_zero, Option.some.injEq, List.getElem?_cons_succ] at hx hy
        subst hy
        exact absurd (key _ _ hk.symm) (hd.1 x (List.mem_of_getElem? hx))
      | succ j =>
        simp only [List.getElem?_cons_succ] at hx hy
        rw [ih hd.2 i j x y hx hy hk]
theorem wCells_rep {t : Nat} (h : Rel d nt e S g a w) {A : Array Value} (ha : a.tmps.getD t undef = .agg A) (ht : t < nt) : ∀ (l : List PV) (j n : Nat) {ps cs : List PV} {ws : List WS}, (∀ (k : Nat) (c : PV), l[k]? = some c → ∃ u, A[j + k]? = some u ∧ RepC g w (Key.tm d t (j + k)) c u) → wCells S t j n l = some (ps, cs, ws) →
    ps.length = l.length ∧ cs.length = ws.length ∧ (∀ (k : Nat) (c : PV), cs[k]? = some c → ∃ x, ws[k]? = some x ∧ x.lt nt ∧ (∀ i, x = WS.vl i → ∃ v, g.va i = some v) ∧ RepC g w (wkey d x) c (hdrW g a x) ∧ isSlice (hdrW g a x)) ∧
    ∀ g' : G, (∀ p v, p.nob1 = true → RepF g p v → RepF g' p v) → (∀ (k : Nat) (x : WS), ws[k]? = some x → g'.va (n + k) = some (hdrW g a x)) → ∀ (k : Nat) (p : PV), ps[k]? = some p → ∃ u, A[j + k]? = some u ∧ RepF g' p u := by
  intro l
  induction l with
  | nil =>
    intro j n ps cs ws hl hw
    simp only [wCells, Option.some.injEq, Prod.mk.injEq] at hw
    obtain ⟨rfl, rfl, rfl⟩ := hw
    exact ⟨rfl, rfl, fun k c hk => by simp at hk, fun g' _ _ k p hk => by simp at hk⟩
  | cons c r ih =>
    intro j n ps cs ws hl hw
    have hr : ∀ (k : Nat) (c : PV), r[k]? = some c → ∃ u, A[j + 1 + k]? = some u ∧ RepC g w (Key.tm d t (j + 1 + k)) c u := fun k c hk => by
      have := hl (k + 1) c hk
      rw [show j + (k + 1) = j + 1 + k by omega] at this
      exact this
    obtain ⟨u0, hu0, hc0⟩ := hl 0 c rfl
    rw [Nat.add_zero] at hu0 hc0
    -- one list more
    have lent : ∀ {c' : PV} {x : WS} {ps' cs' : List PV} {ws' : List WS}, wCells S t (j + 1) (n + 1) r = some (ps', cs', ws') → x.lt nt → (∀ i, x = WS.vl i → ∃ v, g.va i = some v) → RepC g w (wkey d x) c' (hdrW g a x) → isSlice (hdrW g a x) → hdrW g a x = u0 →
        (PV.vo n :: ps').length = (c :: r).length ∧ (c' :: cs').length = (x :: ws').length ∧ (∀ (k : Nat) (q : PV), (c' :: cs')[k]? = some q → ∃ y, (x :: ws')[k]? = some y ∧ y.lt nt ∧ (∀ i, y = WS.vl i → ∃ v, g.va i = some v) ∧ RepC g w (wkey d y) q (hdrW g a y) ∧ isSlice (hdrW g a y)) ∧
        ∀ g' : G, (∀ p v, p.nob1 = true → RepF g p v → RepF g' p v) → (∀ (k : Nat) (y : WS), (x :: ws')[k]? = some y → g'.va (n + k) = some (hdrW g a y)) → ∀ (k : Nat) (p : PV), (PV.vo n :: ps')[k]? = some p → ∃ u, A[j + k]? = some u ∧ RepF g' p u := by
      intro c' x ps' cs' ws' hw' hx1 hx2 hx3 hx4 hx5
      obtain ⟨k1, k2, k3, k4⟩ := ih (j + 1) (n + 1) hr hw'
      refine ⟨by simp [k1], by simp [k2], fun k q hk => ?_, fun g' hg hva k p hk => ?_⟩
      · cases k with
        | zero => simp only [List.getElem?_cons_zero, Option.some.injEq] at hk; subst hk; exact ⟨x, rfl, hx1, hx2, hx3, hx4⟩
        | succ k => exact k3 k q hk
      · cases k with
        | zero =>
          simp only [List.getElem?_cons_zero, Option.some.injEq] at hk
          subst hk
          have h1 := hva 0 x rfl
          obtain ⟨B, m, cc, h2⟩ := hx4
          rw [Nat.add_zero, h2] at h1
          exact ⟨u0, by rw [Nat.add_zero]; exact hu0, by rw [← hx5, h2]; exact .vo n B m cc h1⟩
        | succ k =>
          obtain ⟨u, h1, h2⟩ := k4 g' hg (fun k y hy => by have := hva (k + 1) y hy; rw [show n + (k + 1) = n + 1 + k by omega] at this; exact this) k p hk
          exact ⟨u, by rw [show j + (k + 1) = j + 1 + k by omega]; exact h1, h2⟩
    have other : (bif c.plain && c.nob1 then match wCells S t (j + 1) n r with
        | some (ps, cs, ws) => some (c :: ps, cs, ws)
        | none => none
      else none) = some (ps, cs, ws) → ps.length = (c :: r).length ∧ cs.length = ws.length ∧ (∀ (k : Nat) (c : PV), cs[k]? = some c → ∃ x, ws[k]? = some x ∧ x.lt nt ∧ (∀ i, x = WS.vl i → ∃ v, g.va i = some v) ∧ RepC g w (wkey d x) c (hdrW g a x) ∧ isSlice (hdrW g a x)) ∧
    ∀ g' : G, (∀ p v, p.nob1 = true → RepF g p v → RepF g' p v) → (∀ (k : Nat) (x : WS), ws[k]? = some x → g'.va (n + k) = some (hdrW g a x)) → ∀ (k : Nat) (p : PV), ps[k]? = some p → ∃ u, A[j + k]? = some u ∧ RepF g' p u := by
      intro hw
      cases hg : (c.plain && c.nob1) with
      | false => simp [hg] at hw
      | true =>
        simp only [hg, cond_true] at hw
        simp only [Bool.and_eq_true] at hg
        split at hw
        · rename_i ps' cs' ws' hw'
          simp only [Option.some.injEq, Prod.mk.injEq] at hw
          obtain ⟨rfl, rfl, rfl⟩ := hw
          obtain ⟨k1, k2, k3, k4⟩ := ih (j + 1) n hr hw'
          refine ⟨by simp [k1], k2, k3, fun g' hf hva k p hk => ?_⟩
          cases k with
          | zero =>
            simp only [List.getElem?_cons_zero, Option.some.injEq] at hk
            subst hk
            exact ⟨u0, by rw [Nat.add_zero]; exact hu0, hf _ _ hg.2 ((plain_key hg.1).1 hc0)⟩
          | succ k =>
            obtain ⟨u, h1, h2⟩ := k4 g' hf hva k p hk
            exact ⟨u, by rw [show j + (k + 1) = j + 1 + k by omega]; exact h1, h2⟩
        · simp at hw
    have hcell : hdrW g a (.cell t j) = u0 := by simp only [hdrW, ha, Value.cells, hu0]; rfl
    cases c with
    | ol T xs =>
      simp only [wCells] at hw
      split at hw
      · rename_i ps' cs' ws' hw'
        simp only [Option.some.injEq, Prod.mk.injEq] at hw
        obtain ⟨rfl, rfl, rfl⟩ := hw
        refine lent hw' ht (fun i hi => by simp at hi) (by rw [hcell]; exact hc0) ?_ hcell
        rw [hcell]
        obtain ⟨vs, h1, _⟩ : RepO g w _ T xs u0 := hc0
        rcases h1.2 with ⟨h2, _⟩ | ⟨b, cap, cur, h2, _⟩
        · exact ⟨_, _, _, h2⟩
        · exact ⟨_, _, _, h2⟩
      · simp at hw
    | vo i =>
      simp only [wCells] at hw
      split at hw
      · rename_i c' ps' cs' ws' hi hw'
        simp only [Option.some.injEq, Prod.mk.injEq] at hw
        obtain ⟨rfl, rfl, rfl⟩ := hw
        have hf : RepF g (.vo i) u0 := hc0
        obtain ⟨v, h1, h2⟩ := h.vl i _ hi
        cases hf with
        | vo _ B m cc h3 =>
          have h4 : hdrW g a (.vl i) = .slice B m cc := by simp [hdrW, h3]
          rw [h3] at h1
          obtain rfl := Option.some.inj h1
          exact lent hw' trivial (fun k hk => by simp only [WS.vl.injEq] at hk; subst hk; exact ⟨_, h3⟩) (by rw [h4]; exact h2) (by rw [h4]; exact ⟨_, _, _, rfl⟩) h4
      · simp at hw
    | _ => exact other hw
theorem wArg_rep (h : Rel d nt e S g a w) {o : Operand} {n : Nat} {p : PV} {cs : List PV} {ws : List WS} (hw : wArg S n o = some (p, cs, ws)) :
    cs.length = ws.length ∧ (∀ (k : Nat) (c : PV), cs[k]? = some c → ∃ x, ws[k]? = some x ∧ x.lt nt ∧ (∀ i, x = WS.vl i → ∃ v, g.va i = some v) ∧ RepC g w (wkey d x) c (hdrW g a x) ∧ isSlice (hdrW g a x)) ∧
    ∀ g' : G, (∀ p v, p.nob1 = true → RepF g p v → RepF g' p v) → (∀ (k : Nat) (x : WS), ws[k]? = some x → g'.va (n + k) = some (hdrW g a x)) → ∀ (w' : World) (κ : Key), RepV g' w' κ p (a.eval o) := by
  unfold wArg at hw
  split at hw
  case h_2 => simp at hw
  rename_i q hq
  cases hg : (q.dup && q.nob) with
  | true =>
    simp only [hg, cond_true, Option.some.injEq, Prod.mk.injEq] at hw
    simp only [Bool.and_eq_true] at hg
    obtain ⟨rfl, rfl, rfl⟩ := hw
    refine ⟨rfl, fun k c hk => by simp at hk, fun g' hf _ w' κ => ?_⟩
    have h1 : RepV g w κ q (a.eval o) := dup_TV hg.1 (opv_rep h hq)
    cases q with
    | st l =>
      obtain ⟨A, h2, h3, h4⟩ := h1
      refine ⟨A, h2, h3, fun j c hj => ?_⟩
      obtain ⟨u, h5, h6⟩ := h4 j c hj
      have hn : l.all PV.nob1 = true := hg.2
      rw [List.all_eq_true] at hn
      exact ⟨u, h5, hf _ _ (hn c (List.mem_of_getElem? hj)) h6⟩
    | ad b off => simp [PV.nob, PV.nob1] at hg
    | slf T i b => simp [PV.nob, PV.nob1] at hg
    | clo f l => simp [PV.nob, PV.nob1] at hg
    | tup vs => simp [PV.dup, PV.plain] at hg
    | vo i => simp [PV.nob, PV.nob1] at hg
    | ol T xs => simp [PV.dup, PV.plain] at hg
    | mp U es => simp [PV.dup, PV.plain] at hg
    | gone => simp [PV.dup, PV.plain] at hg
    | fa T x off => exact hf _ _ rfl h1
    | fp T x => exact hf _ _ rfl h1
    | fo T x => exact hf _ _ rfl h1
    | zo k => exact hf _ _ rfl h1
    | b x => exact hf _ _ rfl h1
    | i k n => exact hf _ _ rfl h1
    | s x => exact hf _ _ rfl h1
    | nl => exact hf _ _ rfl h1
    | np => exact hf _ _ rfl h1
    | fl T xs => exact hf _ _ rfl h1
    | ifc x => exact hf _ _ rfl h1
  | false =>
    simp only [hg, cond_false] at hw
    split at hw
    · rename_i t T xs
      simp only [Option.some.injEq, Prod.mk.injEq] at hw
      obtain ⟨rfl, rfl, rfl⟩ := hw
      obtain ⟨ht, hrep⟩ := h.tm t _ hq
      have hrep : RepO g w (.tm d t 0) T xs (a.tmps.getD t undef) := hrep
      have hsl : isSlice (hdrW g a (.all t)) := by
        obtain ⟨vs, h1, _⟩ := hrep
        rcases h1.2 with ⟨h2, _⟩ | ⟨b, cap, cur, h2, _⟩
        · exact ⟨_, _, _, h2⟩
        · exact ⟨_, _, _, h2⟩
      refine ⟨rfl, fun k c hk => ?_, fun g' _ hva w' κ => ?_⟩
      · cases k with
        | zero => simp only [List.getElem?_cons_zero, Option.some.injEq] at hk; subst hk; exact ⟨_, rfl, ht, fun i hi => by simp at hi, hrep, hsl⟩
        | succ k => simp at hk
      · have h1 := hva 0 _ rfl
        obtain ⟨B, m, cc, h2⟩ := hsl
        rw [Nat.add_zero, h2] at h1
        have h3 : a.eval (.tmp t) = .slice B m cc := h2
        rw [h3]
        exact RepF.vo n B m cc h1
    · rename_i t i
      split at hw
      · rename_i c hi
        simp only [Option.some.injEq, Prod.mk.injEq] at hw
        obtain ⟨rfl, rfl, rfl⟩ := hw
        obtain ⟨ht, hrep⟩ := h.tm t _ hq
        have hf : RepF g (.vo i) (a.tmps.getD t undef) := hrep
        obtain ⟨v, h1, h2⟩ := h.vl i _ hi
        have h0 : a.eval (.tmp t) = a.tmps.getD t undef := rfl
        rw [h0]
        generalize a.tmps.getD t undef = u at hf
        cases hf with
        | vo _ B m cc h3 =>
          have h4 : hdrW g a (.vl i) = .slice B m cc := by simp [hdrW, h3]
          rw [h3] at h1
          obtain rfl := Option.some.inj h1
          refine ⟨rfl, fun k c hk => ?_, fun g' _ hva w' κ => ?_⟩
          · cases k with
            | zero => simp only [List.getElem?_cons_zero, Option.some.injEq] at hk; subst hk; exact ⟨_, rfl, trivial, fun k hk => by simp only [WS.vl.injEq] at hk; subst hk; exact ⟨_, h3⟩, by rw [h4]; exact h2, by rw [h4]; exact ⟨_, _, _, rfl⟩⟩
            | succ k => simp at hk
          · have h5 := hva 0 _ rfl
            rw [Nat.add_zero, h4] at h5
            exact RepF.vo n B m cc h5
      · simp at hw
    · rename_i t l
      split at hw
      · rename_i qs cs' ws' hw'
        simp only [Option.some.injEq, Prod.mk.injEq] at hw
        obtain ⟨rfl, rfl, rfl⟩ := hw
        obtain ⟨ht, A, h1, h2, h3⟩ := h.tm t _ hq
        obtain ⟨k1, k2, k3, k4⟩ := wCells_rep h h1 ht l 0 n (fun k c hk => by rw [Nat.zero_add]; exact h3 k c hk) hw'
        refine ⟨k2, k3, fun g' hf hva w' κ => ⟨A, h1, by rw [k1]; exact h2, fun j c hj => ?_⟩⟩
        exact k4 g' hf hva j c hj
      · simp at hw
    · simp at hw
theorem wArgs_rep (h : Rel d nt e S g a w) : ∀ (xs : List Operand) (n : Nat) {ps cs : List PV} {ws : List WS}, wArgs S n xs = some (ps, cs, ws) →
    xs.length = ps.length ∧ cs.length = ws.length ∧ (∀ (k : Nat) (c : PV), cs[k]? = some c → ∃ x, ws[k]? = some x ∧ x.lt nt ∧ (∀ i, x = WS.vl i → ∃ v, g.va i = some v) ∧ RepC g w (wkey d x) c (hdrW g a x) ∧ isSlice (hdrW g a x)) ∧
    ∀ g' : G, (∀ p v, p.nob1 = true → RepF g p v → RepF g' p v) → (∀ (k : Nat) (x : WS), ws[k]? = some x → g'.va (n + k) = some (hdrW g a x)) → ∀ (i : Nat) (p : PV), ps[i]? = some p → ∃ o, xs[i]? = some o ∧ ∀ (w' : World) (κ : Key), RepV g' w' κ p (a.eval o) := by
  intro xs
  induction xs with
  | nil =>
    intro n ps cs ws hw
    simp only [wArgs, Option.some.injEq, Prod.mk.injEq] at hw
    obtain ⟨rfl, rfl, rfl⟩ := hw
    exact ⟨rfl, rfl, fun k c hk => by simp at hk, fun g' _ _ i p hi => by simp at hi⟩
  | cons o r ih =>
    intro n ps cs ws hw
    simp only [wArgs] at hw
    split at hw
    case h_2 => simp at hw
    rename_i p cs1 ws1 hp
    split at hw
    case h_2 => simp at hw
    rename_i ps2 cs2 ws2 hr
    simp only [Option.some.injEq, Prod.mk.injEq] at hw
    obtain ⟨rfl, rfl, rfl⟩ := hw
    obtain ⟨j1, j2, j3⟩ := wArg_rep h hp
    obtain ⟨k1, k2, k3, k4⟩ := ih _ hr
    refine ⟨by simp [k1], by simp [j1, k2], fun k c hk => ?_, fun g' hf hva i q hi => ?_⟩
    · by_cases hlt : k < cs1.length
      · rw [List.getElem?_append_left hlt] at hk
        obtain ⟨x, h1, h2⟩ := j2 k c hk
        exact ⟨x, by rw [List.getElem?_append_left (by omega)]; exact h1, h2⟩
      · rw [List.getElem?_append_right (by omega)] at hk
        obtain ⟨x, h1, h2⟩ := k3 _ c hk
        exact ⟨x, by rw [List.getElem?_append_right (by omega), ← j1]; exact h1, h2⟩
    · cases i with
      | zero =>
        simp only [List.getElem?_cons_zero, Option.some.injEq] at hi
        subst hi
        refine ⟨o, rfl, j3 g' hf fun k x hk => hva k x ?_⟩
        rw [List.getElem?_append_left (List.getElem?_eq_some_iff.1 hk).1]; exact hk
      | succ i =>
        exact k4 g' hf (fun k x hk => by
          have := hva (ws1.length + k) x (by rw [List.getElem?_append_right (by omega), Nat.add_sub_cancel_left]; exact hk)
          rw [← j1, ← Nat.add_assoc] at this
          exact this) i q hi
def G.setVa (g : G) (f : Nat → Option Value) : G := { g with va := f }
theorem same_va (g : G) (f : Nat → Option Value) : Same g (g.setVa f) := ⟨rfl, rfl, rfl⟩
theorem WF.setVa (hnob : ∀ (T : Nat) (x : Dn T), (cells T x).all PV.nob1 = true) {f : Nat → Option Value} (h : WF g w) : WF (g.setVa f) w := ⟨nob_gl hnob (same_va g f) h.gl, h.own, h.fz, h.ob, h.ol, h.inj, h.oe⟩
theorem flat1_F {p : PV} {v : Value} (hp : p.flat1 = true) (h : RepF g p v) : RepF g' p v := by
  cases h <;> first | (simp [PV.flat1] at hp; done) | constructor
theorem flat1_C {p : PV} {v : Value} {κ κ' : Key} (hp : p.flat1 = true) (h : RepC g w κ p v) : RepC g' w' κ' p v := by
  cases p <;> first | (simp [PV.flat1] at hp; done) | exact flat1_F hp h
theorem flat_E {p : PV} {v : Value} {κ κ' : Nat → Key} (hp : p.flat2 = true) (h : RepE g w κ p v) : RepE g' w' κ' p v := by
  cases p with
  | st cs =>
    obtain ⟨A, h1, h2, h3⟩ := h
    refine ⟨A, h1, h2, fun j c hj => ?_⟩
    obtain ⟨u, h4, h5⟩ := h3 j c hj
    have : c.flat1 = true := by
      simp only [PV.flat2, List.all_eq_true] at hp
      exact hp c (List.mem_of_getElem? hj)
    exact ⟨u, h4, flat1_C this h5⟩
  | b x => exact flat1_F (p := .b x) rfl h
  | i k n => exact flat1_F (p := .i k n) rfl h
  | s x => exact flat1_F (p := .s x) rfl h
  | ifc x => exact flat1_F (p := .ifc x) rfl h
  | _ => simp [PV.flat2, PV.flat1] at hp
theorem flat_T {p : PV} {v : Value} {κ κ' : Nat → Key} (hp : p.flat = true) (h : RepT g w κ p v) : RepT g' w' κ' p v := by
  cases p with
  | tup vs =>
    obtain ⟨A, h1, h2, h3⟩ := h
    refine ⟨A, h1, h2, fun j c hj => ?_⟩
    obtain ⟨u, h4, h5⟩ := h3 j c hj
    have : c.flat2 = true := by
      simp only [PV.flat, List.all_eq_true] at hp
      exact hp c (List.mem_of_getElem? hj)
    exact ⟨u, h4, flat_E this h5⟩
  | st cs =>
    obtain ⟨A, h1, h2, h3⟩ := h
    refine ⟨A, h1, h2, fun j c hj => ?_⟩
    obtain ⟨u, h4, h5⟩ := h3 j c hj
    have : c.flat1 = true := by
      simp only [PV.flat, PV.flat2, List.all_eq_true] at hp
      exact hp c (List.mem_of_getElem? hj)
    exact ⟨u, h4, flat1_C this h5⟩
  | b x => exact flat1_F (p := .b x) rfl h
  | i k n => exact flat1_F (p := .i k n) rfl h
  | s x => exact flat1_F (p := .s x) rfl h
  | ifc x => exact flat1_F (p := .ifc x) rfl h
  | _ => simp [PV.flat, PV.flat2, PV.flat1] at hp
theorem wcall_ran (hnob : ∀ (T : Nat) (x : Dn T), (cells T x).all PV.nob1 = true) {f : FuncId} {args : List Operand} {ps cs cs' : List PV} {ws : List WS} {v : PV} (h : Rel d nt e S g a w) (ha : wArgs S 0 args = some (ps, cs, ws)) (hd : wDist ws = true)
    (hc : ConW P f ps cs v cs') (hn0 : cs.all PV.nob1 = true) (hv : v.flat = true) (hl : cs'.length = cs.length) (hn : cs'.all PV.nob1 = true) {dst : Option Nat} (hdst : ∀ t, dst = some t → t < nt) :
    Calls P f (args.map a.eval).toArray w fun en w' => ∃ r g', en = .returned r ∧ Rel d nt e (setD (wSet (wGone S ws) ws cs') dst v) g' (a.put dst r) w' ∧ Ext d S.mm.length g w g' w' := by
  obtain ⟨hlen, hcl, hcs, hps⟩ := wArgs_rep h args 0 ha
  have hws : ∀ (k : Nat) (x : WS), ws[k]? = some x → x.lt nt ∧ (∀ i, x = WS.vl i → ∃ v, g.va i = some v) ∧ isSlice (hdrW g a x) := fun k x hk => by
    have hlt : k < cs.length := by rw [hcl]; exact (List.getElem?_eq_some_iff.1 hk).1
    obtain ⟨y, h1, h2, h3, _, h5⟩ := hcs k _ (List.getElem?_eq_getElem hlt)
    rw [hk] at h1
    obtain rfl := Option.some.inj h1
    exact ⟨h2, h3, h5⟩
  -- what is lent leaves the caller
  obtain ⟨h1, hrt, hmm, hlc⟩ := wSet_rel ws (ws.map fun _ => .gone) h.noR rfl (fun k x hk => ⟨(hws k x hk).1, (hws k x hk).2.1⟩) (fun k x c _ hc => by
    rw [List.getElem?_map] at hc
    obtain ⟨_, _, rfl⟩ := Option.map_eq_some_iff.1 hc
    trivial)
  have h1 : Rel d nt e (wGone S ws) g a w := h1
  have hrt : (wGone S ws).rt = [] := hrt
  have hmm : (wGone S ws).mm = S.mm := hmm
  let hv0 : Nat → Value := fun n => match ws[n]? with | some x => hdrW g a x | none => undef
  let κ : Nat → Key := fun n => match ws[n]? with | some x => wkey d x | none => .rt d n
  have hκ : ∀ n, (∃ x, ws[n]? = some x ∧ κ n = wkey d x ∧ hv0 n = hdrW g a x) ∨ (ws[n]? = none ∧ κ n = .rt d n) := fun n => by
    cases hw : ws[n]? with
    | some x => exact .inl ⟨x, rfl, by simp only [κ, hw], by simp only [hv0, hw]⟩
    | none => exact .inr ⟨rfl, by simp only [κ, hw]⟩
  have hkey : ∀ x : WS, (∃ t j, wkey d x = .tm d t j) ∨ ∃ i, wkey d x = .vo d i := fun x => by cases x <;> first | exact .inl ⟨_, _, rfl⟩ | exact .inr ⟨_, rfl⟩
  have hmine : ∀ (m : Nat) (g : G) (w : World) (n : Nat), Mine d m g w (κ n) := fun m g w n => by
    rcases hκ n with ⟨x, _, h2, _⟩ | ⟨_, h2⟩
    · rw [h2]; rcases hkey x with ⟨t, j, h3⟩ | ⟨i, h3⟩ <;> rw [h3] <;> exact Nat.le_refl d
    · rw [h2]; exact Nat.le_refl d
  have hfree : ∀ n, Free d (wGone S ws) g (κ n) := fun n => by
    rcases hκ n with ⟨x, h2, h3, _⟩ | ⟨_, h2⟩
    · rw [h3]; exact off_free ((wSet_off ws S.noR).2 x (List.mem_of_getElem? h2))
    · rw [h2]; exact ⟨fun _ _ _ hk => by simp at hk, fun _ _ _ _ hk => by simp at hk, fun _ _ _ _ hk => by simp at hk, fun _ _ hk => by simp at hk⟩
  have hinj : ∀ i j, κ i = κ j → i = j := fun i j hij => by
    rcases hκ i with ⟨x, h2, h3, _⟩ | ⟨_, h2⟩ <;> rcases hκ j with ⟨y, h4, h5, _⟩ | ⟨_, h4⟩
    · rw [h3, h5] at hij; exact wDist_inj ws hd i j x y h2 h4 hij
    · rw [h3, h4] at hij; rcases hkey x with ⟨_, _, h6⟩ | ⟨_, h6⟩ <;> rw [h6] at hij <;> simp at hij
    · rw [h2, h5] at hij; rcases hkey y with ⟨_, _, h6⟩ | ⟨_, h6⟩ <;> rw [h6] at hij <;> simp at hij
    · rw [h2, h4] at hij; simpa using hij
  have hne : ∀ i j, κ i ≠ .vo (d + 1) j := fun i j hij => by
    rcases hκ i with ⟨x, _, h3, _⟩ | ⟨_, h2⟩
    · rw [h3] at hij; rcases hkey x with ⟨_, _, h6⟩ | ⟨_, h6⟩ <;> rw [h6] at hij <;> simp at hij
    · rw [h2] at hij; simp at hij
  obtain ⟨g1, h2, h3, h4, h5, h6, h7, h8⟩ := h1.moveCells (m := S.mm.length) cs hv0 κ (fun n => .vo (d + 1) n) (hmine _ g w) (fun _ => Nat.le_succ d) (fun n _ => hfree n) hinj hne (fun n c hn => by
    obtain ⟨x, k1, _, _, k2, _⟩ := hcs n c hn
    have e1 : κ n = wkey d x := by simp only [κ, k1]
    have e2 : hv0 n = hdrW g a x := by simp only [hv0, k1]
    rw [e1, e2]; exact k2)
  -- the callee's headers
  let va1 : Nat → Option Value := fun n => (ws[n]?).map (hdrW g a)
  let g1' := g1.setVa va1
  have s1 : Same g1 g1' := same_va g1 va1
  have hF : ∀ p v, p.nob1 = true → RepF g p v → RepF g1' p v := fun p v hp hr => nob_F hnob s1 (hr.mono h8.gr) hp
  have hvals : ∀ i p, ps[i]? = some p → ∃ u, (args.map a.eval).toArray[i]? = some u ∧ RepV g1' w (.ar (d + 1) i) p u := by
    intro i p hp
    obtain ⟨o, k1, k2⟩ := hps g1' hF (fun k x hk => by
      show (ws[0 + k]?).map (hdrW g a) = _
      rw [Nat.zero_add, hk]; rfl) i p hp
    exact ⟨a.eval o, by rw [List.getElem?_toArray, List.getElem?_map, k1]; rfl, k2 _ _⟩
  have hn1 : ∀ {cs : List PV}, cs.all PV.nob1 = true → ∀ {n : Nat} {c : PV}, cs[n]? = some c → c.nob1 = true := fun {cs} hh {n c} hc => by
    rw [List.all_eq_true] at hh
    exact hh c (List.mem_of_getElem? hc)
  have hVl : VlRep (d + 1) g1' w cs := fun n c hc => by
    obtain ⟨x, k1, _⟩ := hcs n c hc
    refine ⟨hdrW g a x, ?_, nob_C hnob s1 (hn1 hn0 hc) ?_⟩
    · show (ws[n]?).map (hdrW g a) = _
      rw [k1]; rfl
    · have := h7 n c hc
      have e2 : hv0 n = hdrW g a x := by simp only [hv0, k1]
      rw [e2] at this
      exact this
  refine (hc (d + 1) g1' w _ (by simp [hlen]) hvals hVl (h2.wf.setVa hnob)).mono fun en w' hen => ?_
  obtain ⟨r, g2, rfl, hr, hV2, hno2, hw2, hext⟩ := hen
  -- back in the caller
  let g3 := (g2.setLb g1.lb).setVa g.va
  have hgr : Grow g1 g3 := ⟨hext.gr.fz, hext.gr.no, hext.gr.oa, hext.gr.fe, h8.gr.va.symm, hext.gr.oe⟩
  have hwf3 : WF g3 w' := (hw2.setLb).setVa hnob
  have hK : Keep (fun b k => ¬ Outer (d + 1) 0 g1 b k) g1 w g3 w' := ⟨hgr, rfl, fun b k hb hx => hext.own b k hb (Classical.not_not.1 hx)⟩
  have hno3 : g3.no = g1.no := hno2
  have h9 : Rel d nt e (wGone S ws) g3 a w' := by
    refine h2.keepC hK (by rw [hno3]; exact h2.no) (fun b k hb hx => ?_) hrt hwf3
    cases k with
    | loc d' t => exact ⟨.inr (by simp), fun t' hh => by simp only [Key.loc.injEq] at hh; exact hx (by rw [hh.1]; exact Nat.lt_succ_self d), fun _ _ _ hk => by simp at hk, fun _ _ _ _ hk => by simp at hk, fun _ _ _ _ hk => by simp at hk, fun _ _ hk => by simp at hk⟩
    | tm d' t i => exact ⟨.inr (by simp), fun _ => by simp, fun _ _ _ hk => by simp only [Key.tm.injEq] at hk; exact (hx (by rw [hk.1]; exact Nat.lt_succ_self d)).elim, fun _ _ _ _ hk => by simp at hk, fun _ _ _ _ hk => by simp at hk, fun _ _ hk => by simp at hk⟩
    | lc d' t i => exact ⟨.inr (by simp), fun _ => by simp, fun _ _ _ hk => by simp at hk, fun _ _ _ _ hk => by simp only [Key.lc.injEq] at hk; exact (hx (by rw [hk.1]; exact Nat.lt_succ_self d)).elim, fun _ _ _ _ hk => by simp at hk, fun _ _ hk => by simp at hk⟩
    | vo d' i => exact ⟨.inr (by simp), fun _ => by simp, fun _ _ _ hk => by simp at hk, fun _ _ _ _ hk => by simp at hk, fun _ _ _ _ hk => by simp at hk, fun _ _ hk => by simp only [Key.vo.injEq] at hk; exact (hx (by rw [hk.1]; exact Nat.lt_succ_self d)).elim⟩
    | obj => exact (hx fun i hi => by omega).elim
    | ob b' j => exact (hx fun i hi => by omega).elim
    | _ => exact ⟨.inr (by simp), fun _ => by simp, fun _ _ _ hk => by simp at hk, fun _ _ _ _ hk => by simp at hk, fun _ _ _ _ hk => by simp at hk, fun _ _ hk => by simp at hk⟩
  have hE3 : Ext d S.mm.length g1 w g3 w' := by
    have := hext.weaken (d := d) (Nat.zero_le S.mm.length)
    exact ⟨hgr, this.own, this.hs, this.nw, this.sl⟩
  have hV3 : ∀ n c, cs'[n]? = some c → RepC g3 w' (.vo (d + 1) n) c (hv0 n) := fun n c hc' => by
    obtain ⟨u, k1, k2⟩ := hV2 n c hc'
    rw [hext.gr.va] at k1
    have k1 : (ws[n]?).map (hdrW g a) = some u := k1
    obtain ⟨x, k3, k4⟩ := Option.map_eq_some_iff.1 k1
    have e2 : hv0 n = hdrW g a x := by simp only [hv0, k3]
    rw [e2, k4]
    exact nob_C hnob (same_va (g2.setLb g1.lb) g.va) (hn1 hn hc') (repC_lb k2)
  obtain ⟨g4, h10, h11, h12, h13, h14, h15, h16⟩ := h9.moveCells (m := S.mm.length) cs' hv0 (fun n => .vo (d + 1) n) κ (fun _ => Nat.le_succ d) (hmine _ g3 w')
    (fun _ _ => ⟨fun _ _ _ hk => by simp at hk, fun _ _ _ _ hk => by simp at hk, fun _ _ _ _ hk => by simp at hk, fun _ _ hk => by simp at hk⟩) (fun i j hij => by simpa using hij) (fun i j hij => hne j i hij.symm) hV3
  have hva4 : g4.va = g.va := h16.gr.va
  have hdr4 : ∀ x, hdrW g4 a x = hdrW g a x := fun x => by cases x <;> simp only [hdrW, hva4]
  obtain ⟨h17, h18, h19, h20⟩ := wSet_rel ws cs' h10 hrt (fun k x hk => ⟨(hws k x hk).1, fun i hi => by rw [hva4]; exact (hws k x hk).2.1 i hi⟩) (fun k x c hx hc' => by
    have := h15 k c hc'
    have e1 : κ k = wkey d x := by simp only [κ, hx]
    have e2 : hv0 k = hdrW g a x := by simp only [hv0, hx]
    rw [e1, e2] at this
    rw [hdr4]; exact this)
  have hin : ∀ i, i < S.mm.length → i < g.no := fun i hi => (h.mm i S.mm[i] (List.getElem?_eq_getElem hi)).1
  have hE : Ext d S.mm.length g w g4 w' := h3.trans' (hE3.trans h11 fun i hi => by rw [h5]; exact hin i hi) h4 h5
  refine ⟨r, g4, rfl, ?_, hE⟩
  cases dst with
  | none => exact h17
  | some t => exact h17.setT (hdst t rfl) (flat_T hv hr)
theorem vo_F (hnob : ∀ (T : Nat) (x : Dn T), (cells T x).all PV.nob1 = true) {n : Nat} {f : Nat → Option Value} (hf : ∀ i, i < n → f i = g.va i) {p : PV} {v : Value} (hp : p.noVo n = true) (h : RepF g p v) : RepF (g.setVa f) p v := by
  cases h with
  | vo i A m c hi =>
    have hlt : i < n := by simpa [PV.noVo, PV.noVo2] using hp
    exact .vo i A m c (by show f i = _; rw [hf i hlt]; exact hi)
  | ad i off hi => exact .ad (g := g.setVa f) i off hi
  | clo q caps hc => exact .clo (g := g.setVa f) q caps hc
  | b x => exact .b x
  | i k m => exact .i k m
  | s x => exact .s x
  | nl => exact .nl
  | np => exact .np
  | fl0 T => exact .fl0 T
  | ifcN => exact .ifcN
  | ifcS t x => exact .ifcS t x
  | fpN T => exact .fpN T
  | fa T x off bk o C V h1 h2 h3 => exact nob_F hnob (same_va g f) (.fa T x off bk o C V h1 h2 h3) rfl
  | fpS T x v h1 => exact nob_F hnob (same_va g f) (.fpS T x v h1) rfl
  | foN T => exact .foN T
  | zf => exact .zf
  | zm => exact .zm
  | slf T i b hT h => exact .slf T i b hT h
  | foS T xs v h1 => exact nob_F hnob (same_va g f) (.foS T xs v h1) rfl
  | fl T xs A off cap C V h1 h2 h3 h4 => exact nob_F hnob (same_va g f) (.fl T xs A off cap C V h1 h2 h3 h4) rfl
theorem vo_C (hnob : ∀ (T : Nat) (x : Dn T), (cells T x).all PV.nob1 = true) {n : Nat} {f : Nat → Option Value} (hf : ∀ i, i < n → f i = g.va i) {κ : Key} {p : PV} {v : Value} (hp : p.noVo n = true) (h : RepC g w κ p v) : RepC (g.setVa f) w κ p v := by
  cases p with
  | ol T xs => exact nob_C (p := .ol T xs) hnob (same_va g f) rfl h
  | mp U es => exact nob_C (p := .mp U es) hnob (same_va g f) rfl h
  | gone => trivial
  | _ => exact vo_F hnob hf hp h
theorem noVo_st {n : Nat} {cs : List PV} (h : (PV.st cs).noVo2 n = true) {j : Nat} {c : PV} (hj : cs[j]? = some c) (hr : ∃ (g : G) (w : World) (κ : Key) (v : Value), RepC g w κ c v) : c.noVo n = true := by
  have h : cs.all (PV.noVo1 n) = true := h
  rw [List.all_eq_true] at h
  have h1 := h c (List.mem_of_getElem? hj)
  obtain ⟨g, w, κ, v, hr⟩ := hr
  cases c with
  | vo k => exact h1
  | st l => exact (show False by have hr : RepF g (.st l) v := hr; cases hr).elim
  | tup l => exact (show False by have hr : RepF g (.tup l) v := hr; cases hr).elim
  | _ => rfl
theorem vo_E (hnob : ∀ (T : Nat) (x : Dn T), (cells T x).all PV.nob1 = true) {n : Nat} {f : Nat → Option Value} (hf : ∀ i, i < n → f i = g.va i) {κ : Nat → Key} {p : PV} {v : Value} (hp : p.noVo2 n = true) (h : RepE g w κ p v) : RepE (g.setVa f) w κ p v := by
  cases p with
  | st cs =>
    obtain ⟨A, h1, h2, h3⟩ := h
    refine ⟨A, h1, h2, fun j c hj => ?_⟩
    obtain ⟨u, h4, h5⟩ := h3 j c hj
    exact ⟨u, h4, vo_C hnob hf (noVo_st hp hj ⟨g, w, κ j, u, h5⟩) h5⟩
  | tup vs => simp [PV.noVo2] at hp
  | ad b off => cases b with
    | loc t => exact h
    | obj i => exact vo_F (p := .ad (.obj i) off) hnob hf rfl h
  | ol T xs => exact vo_C (p := .ol T xs) hnob hf rfl h
  | mp U es => exact vo_C (p := .mp U es) hnob hf rfl h
  | gone => trivial
  | vo k => exact vo_F (p := .vo k) hnob hf hp h
  | b x => exact vo_F (p := .b x) hnob hf rfl h
  | i k m => exact vo_F (p := .i k m) hnob hf rfl h
  | s x => exact vo_F (p := .s x) hnob hf rfl h
  | nl => exact vo_F (p := .nl) hnob hf rfl h
  | np => exact vo_F (p := .np) hnob hf rfl h
  | fl T xs => exact vo_F (p := .fl T xs) hnob hf rfl h
  | fa T x off => exact vo_F (p := .fa T x off) hnob hf rfl h
  | fp T x => exact vo_F (p := .fp T x) hnob hf rfl h
  | fo T x => exact vo_F (p := .fo T x) hnob hf rfl h
  | zo k => exact vo_F (p := .zo k) hnob hf rfl h
  | slf T i b => exact vo_F (p := .slf T i b) hnob hf rfl h
  | clo q caps => exact vo_F (p := .clo q caps) hnob hf rfl h
  | ifc x => exact vo_F (p := .ifc x) hnob hf rfl h
theorem vo_T (hnob : ∀ (T : Nat) (x : Dn T), (cells T x).all PV.nob1 = true) {n : Nat} {f : Nat → Option Value} (hf : ∀ i, i < n → f i = g.va i) {κ : Nat → Key} {p : PV} {v : Value} (hp : p.noVo n = true) (h : RepT g w κ p v) : RepT (g.setVa f) w κ p v := by
  cases p with
  | tup vs =>
    obtain ⟨A, h1, h2, h3⟩ := h
    refine ⟨A, h1, h2, fun j c hj => ?_⟩
    obtain ⟨u, h4, h5⟩ := h3 j c hj
    have hp : vs.all (PV.noVo2 n) = true := hp
    rw [List.all_eq_true] at hp
    exact ⟨u, h4, vo_E hnob hf (hp c (List.mem_of_getElem? hj)) h5⟩
  | st cs => exact vo_E (p := .st cs) hnob hf hp h
  | ad b off => exact vo_E (p := .ad b off) hnob hf rfl h
  | ol T xs => exact vo_E (p := .ol T xs) hnob hf rfl h
  | mp U es => exact vo_E (p := .mp U es) hnob hf rfl h
  | gone => trivial
  | vo k => exact vo_E (p := .vo k) hnob hf hp h
  | b x => exact vo_E (p := .b x) hnob hf rfl h
  | i k m => exact vo_E (p := .i k m) hnob hf rfl h
  | s x => exact vo_E (p := .s x) hnob hf rfl h
  | nl => exact vo_E (p := .nl) hnob hf rfl h
  | np => exact vo_E (p := .np) hnob hf rfl h
  | fl T xs => exact vo_E (p := .fl T xs) hnob hf rfl h
  | fa T x off => exact vo_E (p := .fa T x off) hnob hf rfl h
  | fp T x => exact vo_E (p := .fp T x) hnob hf rfl h
  | fo T x => exact vo_E (p := .fo T x) hnob hf rfl h
  | zo k => exact vo_E (p := .zo k) hnob hf rfl h
  | slf T i b => exact vo_E (p := .slf T i b) hnob hf rfl h
  | clo q caps => exact vo_E (p := .clo q caps) hnob hf rfl h
  | ifc x => exact vo_E (p := .ifc x) hnob hf rfl h
theorem lk_dropVo {n : Nat} {l : List (Nat × PV)} {t : Nat} {p : PV} (h : lk (dropVo n l) t = some p) : ∃ q, lk l t = some q ∧ (p = .gone ∨ (p = q ∧ q.noVo n = true)) := by
  induction l with
  | nil => simp [dropVo, lk] at h
  | cons x l ih =>
    obtain ⟨u, q⟩ := x
    simp only [dropVo] at h
    rw [lk_cons] at h ⊢
    split at h
    · rename_i hu
      rw [if_pos hu]
      simp only [Option.some.injEq] at h
      cases hq : q.noVo n with
      | true => rw [hq] at h; exact ⟨q, rfl, .inr ⟨h.symm, hq⟩⟩
      | false => rw [hq] at h; exact ⟨q, rfl, .inl h.symm⟩
    · rename_i hu
      rw [if_neg hu]
      exact ih h
theorem lk_dropVoC {n : Nat} {l : List (Nat × List PV)} {t : Nat} {cs : List PV} (h : lk (dropVoC n l) t = some cs) : ∃ ds, lk l t = some ds ∧ cs = ds.map fun c => bif c.noVo n then c else .gone := by
  induction l with
  | nil => simp [dropVoC, lk] at h
  | cons x l ih =>
    obtain ⟨u, q⟩ := x
    simp only [dropVoC] at h
    rw [lk_cons] at h ⊢
    split at h
    · rename_i hu
      rw [if_pos hu]
      exact ⟨q, rfl, (Option.some.inj h).symm⟩
    · rename_i hu
      rw [if_neg hu]
      exact ih h
theorem extC_at : ∀ (cs : List PV) (n j : Nat) {c : PV}, (extC n cs)[j]? = some c → ∃ q, cs[j]? = some q ∧ ((∃ T xs, q = .ol T xs ∧ c = .vo (n + j)) ∨ (isOl q = false ∧ c = q) ∨ c = .gone) := by
  intro cs
  induction cs with
  | nil => intro n j c h; simp [extC] at h
  | cons x r ih =>
    intro n j c h
    cases j with
    | zero =>
      simp only [extC, List.getElem?_cons_zero, Option.some.injEq] at h
      cases x with
      | ol T xs => exact ⟨_, rfl, .inl ⟨T, xs, rfl, h.symm⟩⟩
      | mp U es => exact ⟨_, rfl, .inr (.inr h.symm)⟩
      | _ => exact ⟨_, rfl, .inr (.inl ⟨rfl, h.symm⟩)⟩
    | succ j =>
      simp only [extC, List.getElem?_cons_succ] at h ⊢
      obtain ⟨q, h1, h2⟩ := ih (n + 1) j h
      exact ⟨q, h1, by rw [show n + (j + 1) = n + 1 + j by omega]; exact h2⟩
theorem extC_len (cs : List PV) : ∀ n, (extC n cs).length = cs.length := by
  induction cs with
  | nil => intro n; rfl
  | cons x r ih => intro n; simp [extC, ih]
theorem ol_slice {κ : Key} {T : Nat} {xs : List (Dn T)} {v : Value} (h : RepO g w κ T xs v) : isSlice v := by
  obtain ⟨vs, h1, _⟩ := h
  rcases h1.2 with ⟨h2, _⟩ | ⟨b, cap, cur, h2, _⟩
  · exact ⟨_, _, _, h2⟩
  · exact ⟨_, _, _, h2⟩
def extVa (g : G) (n m : Nat) (us : Nat → Value) : Nat → Option Value := fun i => if n ≤ i ∧ i < n + m then some (us (i - n)) else g.va i
theorem extS_rel (hnob : ∀ (T : Nat) (x : Dn T), (cells T x).all PV.nob1 = true) {m : Nat} (h : Rel d nt e S g a w) (hmm : S.mm = []) (hvl : S.vl.all PV.nob1 = true) {t : Nat} (ht : t < nt) {cs : List PV} {us : Nat → Value} {p : PV}
    (hcs : ∀ j c, cs[j]? = some c → RepC g w (.tm d t j) c (us j))
    (hp : ∀ g' : G, (∀ q v, q.noVo S.vl.length = true → RepF g q v → RepF g' q v) → (∀ j T xs, cs[j]? = some (.ol T xs) → isSlice (us j) → g'.va (S.vl.length + j) = some (us j)) → RepT g' w (Key.tm d t) p (a.tmps.getD t undef)) :
    ∃ g', Rel d nt e (extS t p cs S) g' a w ∧ ∃ g1, Ext d m g w g1 w ∧ g1.oa = g.oa ∧ g1.no = g.no ∧ g' = g1.setVa g'.va := by
  have hg := h.noR.gone ht
  obtain ⟨g1, h1, h2, h3, h4, h5, h6, h7⟩ := hg.moveCells (m := m) cs us (fun j => .tm d t j) (fun j => .vo d (S.vl.length + j)) (fun _ => mine_tm) (fun _ => Nat.le_refl d) (fun _ _ => free_gone)
    (fun i j hij => by simpa using hij) (fun i j hij => by simp at hij) hcs
  let f := extVa g1 S.vl.length cs.length us
  have hf : ∀ i, i < S.vl.length → f i = g1.va i := fun i hi => by
    show (if _ then _ else _) = _
    rw [if_neg (by omega)]
  have hfn : ∀ j, j < cs.length → f (S.vl.length + j) = some (us j) := fun j hj => by
    show (if _ then _ else _) = _
    rw [if_pos (by omega), Nat.add_sub_cancel_left]
  have hs := same_va g1 f
  refine ⟨g1.setVa f, ?_, g1, h2, h3, h4, rfl⟩
  refine ⟨h1.sz, fun u q hq => ?_, fun u ds hu => ?_, fun i ds hi => by simp [extS] at hi, ?_, fun u r hr => by simp [extS, lk] at hr, h1.wf.setVa hnob, h1.df, fun i q hi => ?_⟩
  · have hq' : lk ((t, p) :: dropVo S.vl.length S.tm) u = some q := hq
    rw [lk_cons] at hq'
    by_cases htu : t = u
    · rw [if_pos htu] at hq'
      have hq' := Option.some.inj hq'
      rw [← hq', ← htu]
      refine ⟨ht, hp _ (fun q v hq hr => vo_F hnob hf hq (hr.mono h7.gr)) fun j T xs hj _ => hfn j (List.getElem?_eq_some_iff.1 hj).1⟩
    · rw [if_neg htu] at hq'
      obtain ⟨q0, hq0, hq1⟩ := lk_dropVo hq'
      have hl : lk ((S.noR).setT t .gone).tm u = some q0 := by
        show lk ((t, PV.gone) :: S.tm) u = _
        rw [lk_cons, if_neg htu]; exact hq0
      obtain ⟨k1, k2⟩ := h1.tm u q0 hl
      refine ⟨k1, ?_⟩
      rcases hq1 with rfl | ⟨rfl, hn⟩
      · trivial
      · exact vo_T hnob hf hn k2
  · obtain ⟨ds0, k1, rfl⟩ := lk_dropVoC hu
    obtain ⟨k2, C, E, k3, k4⟩ := h1.lc u ds0 k1
    refine ⟨k2, C, E, k3, by simpa using k4.1, fun j c hj => ?_⟩
    simp only [List.getElem?_map, Option.map_eq_some_iff] at hj
    obtain ⟨c0, hj, rfl⟩ := hj
    obtain ⟨v, k5, k6⟩ := k4.2 j c0 hj
    refine ⟨v, k5, ?_⟩
    cases hn : c0.noVo S.vl.length with
    | false => trivial
    | true => exact vo_C hnob hf hn k6
  · have := h1.no
    have e1 : ((S.noR).setT t .gone).mm = [] := hmm
    rw [e1] at this
    exact this
  · have hi : (S.vl ++ cs.map fun c => bif isOl c then c else .gone)[i]? = some q := hi
    by_cases hlt : i < S.vl.length
    · rw [List.getElem?_append_left hlt] at hi
      obtain ⟨v, k1, k2⟩ := h1.vl i q hi
      refine ⟨v, by show f i = _; rw [hf i hlt]; exact k1, nob_C hnob hs ?_ k2⟩
      rw [List.all_eq_true] at hvl
      exact hvl q (List.mem_of_getElem? hi)
    · rw [List.getElem?_append_right (by omega)] at hi
      simp only [List.getElem?_map, Option.map_eq_some_iff] at hi
      obtain ⟨c, hj, rfl⟩ := hi
      have hlj := (List.getElem?_eq_some_iff.1 hj).1
      have e1 : S.vl.length + (i - S.vl.length) = i := by omega
      refine ⟨us (i - S.vl.length), by rw [← hfn _ hlj, e1]; rfl, ?_⟩
      have := h6 _ c hj
      rw [e1] at this
      cases ho : isOl c with
      | false => trivial
      | true => exact nob_C hnob hs (by cases c <;> simp [isOl, isLs] at ho <;> rfl) this
theorem ext_rel (hnob : ∀ (T : Nat) (x : Dn T), (cells T x).all PV.nob1 = true) (m : Nat) (h : Rel d nt e S g a w) (t : Nat) :
    ∃ g', Rel d nt e (ext t S) g' a w ∧ ∃ g1, Ext d m g w g1 w ∧ g1.oa = g.oa ∧ g1.no = g.no ∧ g' = g1.setVa g'.va := by
  have same : ∃ g', Rel d nt e S g' a w ∧ ∃ g1, Ext d m g w g1 w ∧ g1.oa = g.oa ∧ g1.no = g.no ∧ g' = g1.setVa g'.va := ⟨g, h, g, .refl _ _ _ _, rfl, rfl, rfl⟩
  unfold ext
  split
  case h_2 => exact same
  rename_i hmm
  cases hv : S.vl.all PV.nob1 with
  | false => exact same
  | true =>
    simp only [cond_true]
    split
    · rename_i T xs hl
      obtain ⟨ht, hr⟩ := h.tm t _ hl
      refine extS_rel hnob h hmm hv ht (us := fun _ => a.tmps.getD t undef) (fun j c hj => ?_) fun g' _ hva => ?_
      · cases j with
        | zero => simp only [List.getElem?_cons_zero, Option.some.injEq] at hj; subst hj; exact hr
        | succ j => simp at hj
      · have hsl : isSlice (a.tmps.getD t undef) := ol_slice (show RepO g w _ T xs _ from hr)
        have := hva 0 T xs rfl hsl
        obtain ⟨A, n, c, hA⟩ := hsl
        rw [Nat.add_zero] at this
        rw [hA] at this ⊢
        exact RepF.vo _ A n c this
    · rename_i cs hl
      cases hn : cs.all (PV.noVo S.vl.length) with
      | false => exact same
      | true =>
        simp only [cond_true]
        obtain ⟨ht, A, h1, h2, h3⟩ := h.tm t _ hl
        have hus : ∀ j c, cs[j]? = some c → RepC g w (.tm d t j) c ((A[j]?).getD undef) := fun j c hj => by
          obtain ⟨u, h4, h5⟩ := h3 j c hj
          rw [h4]; exact h5
        refine extS_rel hnob h hmm hv ht (us := fun j => (A[j]?).getD undef) hus fun g' hF hva => ?_
        refine ⟨A, h1, by rw [extC_len]; exact h2, fun j c hj => ?_⟩
        obtain ⟨q, h4, h5⟩ := extC_at cs _ j hj
        obtain ⟨u, h6, h7⟩ := h3 j q h4
        refine ⟨u, h6, ?_⟩
        rcases h5 with ⟨T, xs, rfl, rfl⟩ | ⟨ho, hcq⟩ | rfl
        · have hsl : isSlice u := ol_slice (show RepO g w _ T xs u from h7)
          have h8 := hva j T xs h4 (by rw [h6]; exact hsl)
          rw [h6] at h8
          obtain ⟨B, n, k, hB⟩ := hsl
          rw [hB] at h8 ⊢
          exact RepF.vo _ B n k h8
        · rw [hcq]
          rw [List.all_eq_true] at hn
          have hnq := hn q (List.mem_of_getElem? h4)
          cases q with
          | ol T xs => simp [isOl, isLs] at ho
          | mp U es => simp [isOl] at ho
          | gone => trivial
          | _ => exact hF _ _ hnq h7
        · trivial
    · exact same
end
end Go.KM
