/- Lists that are lent to a callee which writes into them. Conditions: none. -/
import Derived.Test.YtdhkmgloghlnnaaGreatDoorKmO
namespace Go.KM
open Go
open Fam (Dn dflt)
open Enc (cells sz mkE glob gany u8)
set_option autoImplicit false
set_option linter.unusedVariables false
set_option linter.unusedSimpArgs false
set_option linter.unusedSectionVars false
section
variable [Enc] {d nt : Nat} {e : Option Nat} {S : St} {g g' : G} {a : Act} {w w' : World} {P : Program}
structure Same (g g' : G) : Prop where
  fz : g'.fz = g.fz
  own : g'.own = g.own
  lb : g'.lb = g.lb
theorem Same.symm {g g' : G} (h : Same g g') : Same g' g := ⟨h.fz.symm, h.own.symm, h.lb.symm⟩
section
variable (hnob : ∀ (T : Nat) (x : Dn T), (cells T x).all PV.nob1 = true)
include hnob
theorem nob_F {g g' : G} (hs : Same g g') {p : PV} {v : Value} (h : RepF g p v) : p.nob1 = true → RepF g' p v := by
  induction h with
  | b x => exact fun _ => .b x
  | i k n => exact fun _ => .i k n
  | s x => exact fun _ => .s x
  | nl => exact fun _ => .nl
  | np => exact fun _ => .np
  | ad i off h => exact fun hp => by simp [PV.nob1] at hp
  | fl0 T => exact fun _ => .fl0 T
  | ifcN => exact fun _ => .ifcN
  | ifcS t x => exact fun _ => .ifcS t x
  | clo f caps h => exact fun hp => by simp [PV.nob1] at hp
  | vo i A n c h => exact fun hp => by simp [PV.nob1] at hp
  | fa T x off bk o C V hf hv hr ih =>
    intro _
    refine .fa T x off bk o C V (by rw [hs.fz]; exact hf) hv fun j c hj => ih j c hj ?_
    have := hnob T x
    rw [List.all_eq_true] at this
    exact this c (List.mem_of_getElem? hj)
  | fpN T => exact fun _ => .fpN T
  | fpS T x v h ih => exact fun _ => .fpS T x v (ih rfl)
  | foN T => exact fun _ => .foN T
  | zf => exact fun _ => .zf
  | zm => exact fun _ => .zm
  | slf T i b hT h => exact fun hp => by simp [PV.nob1] at hp
  | foS T xs v h ih => exact fun _ => .foS T xs v (ih rfl)
  | fl T xs A off cap C V hf hc hv hr ih =>
    intro _
    refine .fl T xs A off cap C V (fun hx => ?_) hc hv fun i x hi j c hj => ih i x hi j c hj ?_
    · rw [hs.fz]; exact hf hx
    · have := hnob T x
      rw [List.all_eq_true] at this
      exact this c (List.mem_of_getElem? hj)
theorem nob_cells {g g' : G} (hs : Same g g') {C : Array Value} {o : Nat} {cs : List PV} (hn : cs.all PV.nob1 = true) (h : CellsAt g C o cs) : CellsAt g' C o cs := by
  intro j c hj
  obtain ⟨u, h1, h2⟩ := h j c hj
  rw [List.all_eq_true] at hn
  exact ⟨u, h1, nob_F hnob hs h2 (hn c (List.mem_of_getElem? hj))⟩
theorem nob_C {g g' : G} (hs : Same g g') {w : World} {κ : Key} {p : PV} {v : Value} (hn : p.nob1 = true) (h : RepC g w κ p v) : RepC g' w κ p v := by
  cases p with
  | ol T xs =>
    obtain ⟨ws, h1, h2, h3⟩ := h
    refine ⟨ws, ?_, ?_, ?_⟩
    · exact h1
    · intro b hb; have := h2 b hb; rw [hs.own]; exact this
    · intro i x hi j c hj
      obtain ⟨u, h4, h5⟩ := h3 i x hi j c hj
      have := hnob T x
      rw [List.all_eq_true] at this
      exact ⟨u, h4, nob_F hnob hs h5 (this c (List.mem_of_getElem? hj))⟩
  | mp U es =>
    obtain ⟨r, ms, ck, h1, h2, h3, h4, h5⟩ := h
    refine ⟨r, ms, ck, h1, by rw [hs.own]; exact h2, h3, h4, fun i x hi => ?_⟩
    obtain ⟨q, a1, a2, c, a3, a4⟩ := h5 i x hi
    have := hnob U x.2
    rw [List.all_eq_true] at this
    exact ⟨q, a1, a2, c, a3, nob_F hnob hs a4 (this c (by rw [a3]; simp))⟩
  | gone => trivial
  | _ => first | exact nob_F hnob hs h hn | (simp [PV.nob1] at hn; done) | trivial
theorem nob_V {g g' : G} (hs : Same g g') {w : World} {κ : Key} {p : PV} {v : Value} (hn : p.nob = true) (h : RepV g w κ p v) : RepV g' w κ p v := by
  cases p with
  | st cs =>
    obtain ⟨A, h1, h2, h3⟩ := h
    exact ⟨A, h1, h2, nob_cells hnob hs hn h3⟩
  | fa T x off => exact nob_C (w := w) (κ := κ) hnob hs (p := .fa T x off) hn h
  | fp T x => exact nob_C (w := w) (κ := κ) hnob hs (p := .fp T x) hn h
  | fo T x => exact nob_C (w := w) (κ := κ) hnob hs (p := .fo T x) hn h
  | zo k => exact nob_C (w := w) (κ := κ) hnob hs (p := .zo k) hn h
  | slf T i b => simp [PV.nob, PV.nob1] at hn
  | ad b off => simp [PV.nob, PV.nob1] at hn
  | tup vs => exact (show False by have h : RepF g (.tup vs) v := h; cases h).elim
  | clo f caps => simp [PV.nob, PV.nob1] at hn
  | vo i => simp [PV.nob, PV.nob1] at hn
  | b x => exact nob_C (w := w) (κ := κ) hnob hs (p := .b x) hn h
  | i k n => exact nob_C (w := w) (κ := κ) hnob hs (p := .i k n) hn h
  | s x => exact nob_C (w := w) (κ := κ) hnob hs (p := .s x) hn h
  | nl => exact nob_C (w := w) (κ := κ) hnob hs (p := .nl) hn h
  | np => exact nob_C (w := w) (κ := κ) hnob hs (p := .np) hn h
  | ol T xs => exact nob_C (w := w) (κ := κ) hnob hs (p := .ol T xs) hn h
  | mp U es => exact nob_C (w := w) (κ := κ) hnob hs (p := .mp U es) hn h
  | fl T xs => exact nob_C (w := w) (κ := κ) hnob hs (p := .fl T xs) hn h
  | ifc x => exact nob_C (w := w) (κ := κ) hnob hs (p := .ifc x) hn h
  | gone => trivial
theorem nob_E {g g' : G} (hs : Same g g') {w : World} {κ : Nat → Key} {p : PV} {v : Value} (hn : (match p with
    | .st cs => cs.all PV.nob1
    | p => p.nob1) = true) (h : RepE g w κ p v) : RepE g' w κ p v := by
  cases p with
  | st cs =>
    obtain ⟨A, h1, h2, h3⟩ := h
    refine ⟨A, h1, h2, fun j c hj => ?_⟩
    obtain ⟨u, h4, h5⟩ := h3 j c hj
    rw [List.all_eq_true] at hn
    exact ⟨u, h4, nob_C hnob hs (hn c (List.mem_of_getElem? hj)) h5⟩
  | ad b off => simp [PV.nob1] at hn
  | clo f caps => simp [PV.nob1] at hn
  | vo i => simp [PV.nob1] at hn
  | tup vs => exact (show False by have h : RepF g (.tup vs) v := h; cases h).elim
  | gone => trivial
  | b x => exact nob_V (w := w) (κ := κ 0) hnob hs (p := .b x) hn h
  | i k n => exact nob_V (w := w) (κ := κ 0) hnob hs (p := .i k n) hn h
  | s x => exact nob_V (w := w) (κ := κ 0) hnob hs (p := .s x) hn h
  | nl => exact nob_V (w := w) (κ := κ 0) hnob hs (p := .nl) hn h
  | np => exact nob_V (w := w) (κ := κ 0) hnob hs (p := .np) hn h
  | ol T xs => exact nob_V (w := w) (κ := κ 0) hnob hs (p := .ol T xs) hn h
  | mp U es => exact nob_V (w := w) (κ := κ 0) hnob hs (p := .mp U es) hn h
  | fl T xs => exact nob_V (w := w) (κ := κ 0) hnob hs (p := .fl T xs) hn h
  | ifc x => exact nob_V (w := w) (κ := κ 0) hnob hs (p := .ifc x) hn h
  | fa T x off => exact nob_V (w := w) (κ := κ 0) hnob hs (p := .fa T x off) hn h
  | fp T x => exact nob_V (w := w) (κ := κ 0) hnob hs (p := .fp T x) hn h
  | fo T x => exact nob_V (w := w) (κ := κ 0) hnob hs (p := .fo T x) hn h
  | zo k => exact nob_V (w := w) (κ := κ 0) hnob hs (p := .zo k) hn h
  | slf T i b => simp [PV.nob, PV.nob1] at hn
theorem nob_T {g g' : G} (hs : Same g g') {w : World} {κ : Nat → Key} {p : PV} {v : Value} (hn : p.nob = true) (h : RepT g w κ p v) : RepT g' w κ p v := by
  cases p with
  | tup vs =>
    obtain ⟨A, h1, h2, h3⟩ := h
    refine ⟨A, h1, h2, fun i p hi => ?_⟩
    obtain ⟨u, h4, h5⟩ := h3 i p hi
    refine ⟨u, h4, nob_E hnob hs ?_ h5⟩
    have hn : (vs.all fun p => match p with
      | .st cs => cs.all PV.nob1
      | p => p.nob1) = true := hn
    rw [List.all_eq_true] at hn
    exact hn p (List.mem_of_getElem? hi)
  | st cs =>
    obtain ⟨A, h1, h2, h3⟩ := h
    refine ⟨A, h1, h2, fun j c hj => ?_⟩
    obtain ⟨u, h4, h5⟩ := h3 j c hj
    have hn : cs.all PV.nob1 = true := hn
    rw [List.all_eq_true] at hn
    exact ⟨u, h4, nob_C hnob hs (hn c (List.mem_of_getElem? hj)) h5⟩
  | b x => exact nob_V (w := w) (κ := κ 0) hnob hs (p := .b x) hn h
  | i k n => exact nob_V (w := w) (κ := κ 0) hnob hs (p := .i k n) hn h
  | s x => exact nob_V (w := w) (κ := κ 0) hnob hs (p := .s x) hn h
  | nl => exact nob_V (w := w) (κ := κ 0) hnob hs (p := .nl) hn h
  | np => exact nob_V (w := w) (κ := κ 0) hnob hs (p := .np) hn h
  | ol T xs => exact nob_V (w := w) (κ := κ 0) hnob hs (p := .ol T xs) hn h
  | mp U es => exact nob_V (w := w) (κ := κ 0) hnob hs (p := .mp U es) hn h
  | fl T xs => exact nob_V (w := w) (κ := κ 0) hnob hs (p := .fl T xs) hn h
  | ifc x => exact nob_V (w := w) (κ := κ 0) hnob hs (p := .ifc x) hn h
  | fa T x off => exact nob_V (w := w) (κ := κ 0) hnob hs (p := .fa T x off) hn h
  | fp T x => exact nob_V (w := w) (κ := κ 0) hnob hs (p := .fp T x) hn h
  | fo T x => exact nob_V (w := w) (κ := κ 0) hnob hs (p := .fo T x) hn h
  | zo k => exact nob_V (w := w) (κ := κ 0) hnob hs (p := .zo k) hn h
  | slf T i b => simp [PV.nob, PV.nob1] at hn
  | ad b off => simp [PV.nob, PV.nob1] at hn
  | clo f caps => simp [PV.nob, PV.nob1] at hn
  | vo i => simp [PV.nob, PV.nob1] at hn
  | gone => trivial
theorem nob_gl {g g' : G} (hs : Same g g') (h : GlobOk g) : GlobOk g' := by
  refine ⟨fun n T x hn => ?_, fun n k hn => ?_⟩
  · obtain ⟨C, h1, h2, h3⟩ := h.is n T x hn
    exact ⟨C, by rw [hs.fz]; exact h1, h2, nob_cells hnob hs (hnob T x) h3⟩
  · obtain ⟨C, m, h1, h2⟩ := h.any n k hn
    exact ⟨C, m, by rw [hs.fz]; exact h1, h2⟩
end
def WS.lt (nt : Nat) : WS → Prop
  | .all t | .cell t _ => t < nt
  | .vl _ => True
def isSlice (v : Value) : Prop := ∃ A n c, v = .slice A n c
theorem repC_T0 {κ : Nat → Key} {p : PV} {v : Value} (h : RepC g w (κ 0) p v) : RepT g w κ p v := by
  cases p with
  | st cs => exact (show False by have h : RepF g (.st cs) v := h; cases h).elim
  | tup vs => exact (show False by have h : RepF g (.tup vs) v := h; cases h).elim
  | ad b off => cases b with
    | loc t => exact (show False by have h : RepF g (.ad (.loc t) off) v := h; cases h).elim
    | obj i => exact h
  | _ => exact h
def G.setVa (g : G) (f : Nat → Option Value) : G := { g with va := f }
theorem same_va (g : G) (f : Nat → Option Value) : Same g (g.setVa f) := ⟨rfl, rfl, rfl⟩
theorem WF.setVa (hnob : ∀ (T : Nat) (x : Dn T), (cells T x).all PV.nob1 = true) {f : Nat → Option Value} (h : WF g w) : WF (g.setVa f) w := ⟨nob_gl hnob (same_va g f) h.gl, h.own, h.fz, h.ob, h.ol, h.inj, h.oe⟩
theorem flat1_F {p : PV} {v : Value} (hp : p.flat1 = true) (h : RepF g p v) : RepF g' p v := by
  cases h <;> first | (simp [PV.flat1] at hp; done) | constructor
theorem vo_F (hnob : ∀ (T : Nat) (x : Dn T), (cells T x).all PV.nob1 = true) {n : Nat} {f : Nat → Option Value} (hf : ∀ i, i < n → f i = g.va i) {p : PV} {v : Value} (hp : p.noVo n = true) (h : RepF g p v) : RepF (g.setVa f) p v := by
  cases h with
  | vo i A m c hi =>
    have hlt : i < n := by simpa [PV.noVo, PV.noVo2] using hp
    exact .vo i A m c (by show f i = _; rw [hf i hlt]; exact hi)
  | ad i off hi => exact .ad (g := g.setVa f) i off hi
  | clo q caps hc => exact .clo (g := g.setVa f) q caps hc
  | b x => exact .b x
  | i k m => exact .i k m
  | s x => exact .s x
  | nl => exact .nl
  | np => exact .np
  | fl0 T => exact .fl0 T
  | ifcN => exact .ifcN
  | ifcS t x => exact .ifcS t x
  | fpN T => exact .fpN T
  | fa T x off bk o C V h1 h2 h3 => exact nob_F hnob (same_va g f) (.fa T x off bk o C V h1 h2 h3) rfl
  | fpS T x v h1 => exact nob_F hnob (same_va g f) (.fpS T x v h1) rfl
  | foN T => exact .foN T
  | zf => exact .zf
  | zm => exact .zm
  | slf T i b hT h => exact .slf T i b hT h
  | foS T xs v h1 => exact nob_F hnob (same_va g f) (.foS T xs v h1) rfl
  | fl T xs A off cap C V h1 h2 h3 h4 => exact nob_F hnob (same_va g f) (.fl T xs A off cap C V h1 h2 h3 h4) rfl
theorem vo_C (hnob : ∀ (T : Nat) (x : Dn T), (cells T x).all PV.nob1 = true) {n : Nat} {f : Nat → Option Value} (hf : ∀ i, i < n → f i = g.va i) {κ : Key} {p : PV} {v : Value} (hp : p.noVo n = true) (h : RepC g w κ p v) : RepC (g.setVa f) w κ p v := by
  cases p with
  | ol T xs => exact nob_C (p := .ol T xs) hnob (same_va g f) rfl h
  | mp U es => exact nob_C (p := .mp U es) hnob (same_va g f) rfl h
  | gone => trivial
  | _ => exact vo_F hnob hf hp h
theorem noVo_st {n : Nat} {cs : List PV} (h : (PV.st cs).noVo2 n = true) {j : Nat} {c : PV} (hj : cs[j]? = some c) (hr : ∃ (g : G) (w : World) (κ : Key) (v : Value), RepC g w κ c v) : c.noVo n = true := by
  have h : cs.all (PV.noVo1 n) = true := h
  rw [List.all_eq_true] at h
  have h1 := h c (List.mem_of_getElem? hj)
  obtain ⟨g, w, κ, v, hr⟩ := hr
  cases c with
  | vo k => exact h1
  | st l => exact (show False by have hr : RepF g (.st l) v := hr; cases hr).elim
  | tup l => exact (show False by have hr : RepF g (.tup l) v := hr; cases hr).elim
  | _ => rfl
theorem vo_E (hnob : ∀ (T : Nat) (x : Dn T), (cells T x).all PV.nob1 = true) {n : Nat} {f : Nat → Option Value} (hf : ∀ i, i < n → f i = g.va i) {κ : Nat → Key} {p : PV} {v : Value} (hp : p.noVo2 n = true) (h : RepE g w κ p v) : RepE (g.setVa f) w κ p v := by
  cases p with
  | st cs =>
    obtain ⟨A, h1, h2, h3⟩ := h
    refine ⟨A, h1, h2, fun j c hj => ?_⟩
    obtain ⟨u, h4, h5⟩ := h3 j c hj
    exact ⟨u, h4, vo_C hnob hf (noVo_st hp hj ⟨g, w, κ j, u, h5⟩) h5⟩
  | tup vs => simp [PV.noVo2] at hp
  | ad b off => cases b with
    | loc t => exact h
    | obj i => exact vo_F (p := .ad (.obj i) off) hnob hf rfl h
  | ol T xs => exact vo_C (p := .ol T xs) hnob hf rfl h
  | mp U es => exact vo_C (p := .mp U es) hnob hf rfl h
  | gone => trivial
  | vo k => exact vo_F (p := .vo k) hnob hf hp h
  | b x => exact vo_F (p := .b x) hnob hf rfl h
  | i k m => exact vo_F (p := .i k m) hnob hf rfl h
  | s x => exact vo_F (p := .s x) hnob hf rfl h
  | nl => exact vo_F (p := .nl) hnob hf rfl h
  | np => exact vo_F (p := .np) hnob hf rfl h
  | fl T xs => exact vo_F (p := .fl T xs) hnob hf rfl h
  | fa T x off => exact vo_F (p := .fa T x off) hnob hf rfl h
  | fp T x => exact vo_F (p := .fp T x) hnob hf rfl h
  | fo T x => exact vo_F (p := .fo T x) hnob hf rfl h
  | zo k => exact vo_F (p := .zo k) hnob hf rfl h
  | slf T i b => exact vo_F (p := .slf T i b) hnob hf rfl h
  | clo q caps => exact vo_F (p := .clo q caps) hnob hf rfl h
  | ifc x => exact vo_F (p := .ifc x) hnob hf rfl h
theorem vo_T (hnob : ∀ (T : Nat) (x : Dn T), (cells T x).all PV.nob1 = true) {n : Nat} {f : Nat → Option Value} (hf : ∀ i, i < n → f i = g.va i) {κ : Nat → Key} {p : PV} {v : Value} (hp : p.noVo n = true) (h : RepT g w κ p v) : RepT (g.setVa f) w κ p v := by
  cases p with
  | tup vs =>
    obtain ⟨A, h1, h2, h3⟩ := h
    refine ⟨A, h1, h2, fun j c hj => ?_⟩
    obtain ⟨u, h4, h5⟩ := h3 j c hj
    have hp : vs.all (PV.noVo2 n) = true := hp
    rw [List.all_eq_true] at hp
    exact ⟨u, h4, vo_E hnob hf (hp c (List.mem_of_getElem? hj)) h5⟩
  | st cs => exact vo_E (p := .st cs) hnob hf hp h
  | ad b off => exact vo_E (p := .ad b off) hnob hf rfl h
  | ol T xs => exact vo_E (p := .ol T xs) hnob hf rfl h
  | mp U es => exact vo_E (p := .mp U es) hnob hf rfl h
  | gone => trivial
  | vo k => exact vo_E (p := .vo k) hnob hf hp h
  | b x => exact vo_E (p := .b x) hnob hf rfl h
  | i k m => exact vo_E (p := .i k m) hnob hf rfl h
  | s x => exact vo_E (p := .s x) hnob hf rfl h
  | nl => exact vo_E (p := .nl) hnob hf rfl h
  | np => exact vo_E (p := .np) hnob hf rfl h
  | fl T xs => exact vo_E (p := .fl T xs) hnob hf rfl h
  | fa T x off => exact vo_E (p := .fa T x off) hnob hf rfl h
  | fp T x => exact vo_E (p := .fp T x) hnob hf rfl h
  | fo T x => exact vo_E (p := .fo T x) hnob hf rfl h
  | zo k => exact vo_E (p := .zo k) hnob hf rfl h
  | slf T i b => exact vo_E (p := .slf T i b) hnob hf rfl h
  | clo q caps => exact vo_E (p := .clo q caps) hnob hf rfl h
  | ifc x => exact vo_E (p := .ifc x) hnob hf rfl h
theorem lk_dropVo {n : Nat} {l : List (Nat × PV)} {t : Nat} {p : PV} (h : lk (dropVo n l) t = some p) : ∃ q, lk l t = some q ∧ (p = .gone ∨ (p = q ∧ q.noVo n = true)) := by
  induction l with
  | nil => simp [dropVo, lk] at h
  | cons x l ih =>
    obtain ⟨u, q⟩ := x
    simp only [dropVo] at h
    rw [lk_cons] at h ⊢
    split at h
    · rename_i hu
      rw [if_pos hu]
      simp only [Option.some.injEq] at h
      cases hq : q.noVo n with
      | true => rw [hq] at h; exact ⟨q, rfl, .inr ⟨h.symm, hq⟩⟩
      | false => rw [hq] at h; exact ⟨q, rfl, .inl h.symm⟩
    · rename_i hu
      rw [if_neg hu]
      exact ih h
theorem lk_dropVoC {n : Nat} {l : List (Nat × List PV)} {t : Nat} {cs : List PV} (h : lk (dropVoC n l) t = some cs) : ∃ ds, lk l t = some ds ∧ cs = ds.map fun c => bif c.noVo n then c else .gone := by
  induction l with
  | nil => simp [dropVoC, lk] at h
  | cons x l ih =>
    obtain ⟨u, q⟩ := x
    simp only [dropVoC] at h
    rw [lk_cons] at h ⊢
    split at h
    · rename_i hu
      rw [if_pos hu]
      exact ⟨q, rfl, (Option.some.inj h).symm⟩
    · rename_i hu
      rw [if_neg hu]
      exact ih h
theorem extC_at : ∀ (cs : List PV) (n j : Nat) {c : PV}, (extC n cs)[j]? = some c → ∃ q, cs[j]? = some q ∧ ((∃ T xs, q = .ol T xs ∧ c = .vo (n + j)) ∨ (isOl q = false ∧ c = q) ∨ c = .gone) := by
  intro cs
  induction cs with
  | nil => intro n j c h; simp [extC] at h
  | cons x r ih =>
    intro n j c h
    cases j with
    | zero =>
      simp only [extC, List.getElem?_cons_zero, Option.some.injEq] at h
      cases x with
      | ol T xs => exact ⟨_, rfl, .inl ⟨T, xs, rfl, h.symm⟩⟩
      | mp U es => exact ⟨_, rfl, .inr (.inr h.symm)⟩
      | _ => exact ⟨_, rfl, .inr (.inl ⟨rfl, h.symm⟩)⟩
    | succ j =>
      simp only [extC, List.getElem?_cons_succ] at h ⊢
      obtain ⟨q, h1, h2⟩ := ih (n + 1) j h
      exact ⟨q, h1, by rw [show n + (j + 1) = n + 1 + j by omega]; exact h2⟩
theorem extC_len (cs : List PV) : ∀ n, (extC n cs).length = cs.length := by
  induction cs with
  | nil => intro n; rfl
  | cons x r ih => intro n; simp [extC, ih]
theorem ol_slice {κ : Key} {T : Nat} {xs : List (Dn T)} {v : Value} (h : RepO g w κ T xs v) : isSlice v := by
  obtain ⟨vs, h1, _⟩ := h
  rcases h1.2 with ⟨h2, _⟩ | ⟨b, cap, cur, h2, _⟩
  · exact ⟨_, _, _, h2⟩
  · exact ⟨_, _, _, h2⟩
def extVa (g : G) (n m : Nat) (us : Nat → Value) : Nat → Option Value := fun i => if n ≤ i ∧ i < n + m then some (us (i - n)) else g.va i
theorem extS_rel (hnob : ∀ (T : Nat) (x : Dn T), (cells T x).all PV.nob1 = true) {m : Nat} (h : Rel d nt e S g a w) (hmm : S.mm = []) (hvl : S.vl.all PV.nob1 = true) {t : Nat} (ht : t < nt) {cs : List PV} {us : Nat → Value} {p : PV}
    (hcs : ∀ j c, cs[j]? = some c → RepC g w (.tm d t j) c (us j))
    (hp : ∀ g' : G, (∀ q v, q.noVo S.vl.length = true → RepF g q v → RepF g' q v) → (∀ j T xs, cs[j]? = some (.ol T xs) → isSlice (us j) → g'.va (S.vl.length + j) = some (us j)) → RepT g' w (Key.tm d t) p (a.tmps.getD t undef)) :
    ∃ g', Rel d nt e (extS t p cs S) g' a w ∧ ∃ g1, Ext d m g w g1 w ∧ g1.oa = g.oa ∧ g1.no = g.no ∧ g' = g1.setVa g'.va := by
  have hg := h.noR.gone ht
  obtain ⟨g1, h1, h2, h3, h4, h5, h6, h7⟩ := hg.moveCells (m := m) cs us (fun j => .tm d t j) (fun j => .vo d (S.vl.length + j)) (fun _ => mine_tm) (fun _ => Nat.le_refl d) (fun _ _ => free_gone)
    (fun i j hij => by simpa using hij) (fun i j hij => by simp at hij) hcs
  let f := extVa g1 S.vl.length cs.length us
  have hf : ∀ i, i < S.vl.length → f i = g1.va i := fun i hi => by
    show (if _ then _ else _) = _
    rw [if_neg (by omega)]
  have hfn : ∀ j, j < cs.length → f (S.vl.length + j) = some (us j) := fun j hj => by
    show (if _ then _ else _) = _
    rw [if_pos (by omega), Nat.add_sub_cancel_left]
  have hs := same_va g1 f
  refine ⟨g1.setVa f, ?_, g1, h2, h3, h4, rfl⟩
  refine ⟨h1.sz, fun u q hq => ?_, fun u ds hu => ?_, fun i ds hi => by simp [extS] at hi, ?_, fun u r hr => by simp [extS, lk] at hr, h1.wf.setVa hnob, h1.df, fun i q hi => ?_⟩
  · have hq' : lk ((t, p) :: dropVo S.vl.length S.tm) u = some q := hq
    rw [lk_cons] at hq'
    by_cases htu : t = u
    · rw [if_pos htu] at hq'
      have hq' := Option.some.inj hq'
      rw [← hq', ← htu]
      refine ⟨ht, hp _ (fun q v hq hr => vo_F hnob hf hq (hr.mono h7.gr)) fun j T xs hj _ => hfn j (List.getElem?_eq_some_iff.1 hj).1⟩
    · rw [if_neg htu] at hq'
      obtain ⟨q0, hq0, hq1⟩ := lk_dropVo hq'
      have hl : lk ((S.noR).setT t .gone).tm u = some q0 := by
        show lk ((t, PV.gone) :: S.tm) u = _
        rw [lk_cons, if_neg htu]; exact hq0
      obtain ⟨k1, k2⟩ := h1.tm u q0 hl
      refine ⟨k1, ?_⟩
      rcases hq1 with rfl | ⟨rfl, hn⟩
      · trivial
      · exact vo_T hnob hf hn k2
  · obtain ⟨ds0, k1, rfl⟩ := lk_dropVoC hu
    obtain ⟨k2, C, E, k3, k4⟩ := h1.lc u ds0 k1
    refine ⟨k2, C, E, k3, by simpa using k4.1, fun j c hj => ?_⟩
    simp only [List.getElem?_map, Option.map_eq_some_iff] at hj
    obtain ⟨c0, hj, rfl⟩ := hj
    obtain ⟨v, k5, k6⟩ := k4.2 j c0 hj
    refine ⟨v, k5, ?_⟩
    cases hn : c0.noVo S.vl.length with
    | false => trivial
    | true => exact vo_C hnob hf hn k6
  · have := h1.no
    have e1 : ((S.noR).setT t .gone).mm = [] := hmm
    rw [e1] at this
    exact this
  · have hi : (S.vl ++ cs.map fun c => bif isOl c then c else .gone)[i]? = some q := hi
    by_cases hlt : i < S.vl.length
    · rw [List.getElem?_append_left hlt] at hi
      obtain ⟨v, k1, k2⟩ := h1.vl i q hi
      refine ⟨v, by show f i = _; rw [hf i hlt]; exact k1, nob_C hnob hs ?_ k2⟩
      rw [List.all_eq_true] at hvl
      exact hvl q (List.mem_of_getElem? hi)
    · rw [List.getElem?_append_right (by omega)] at hi
      simp only [List.getElem?_map, Option.map_eq_some_iff] at hi
      obtain ⟨c, hj, rfl⟩ := hi
      have hlj := (List.getElem?_eq_some_iff.1 hj).1
      have e1 : S.vl.length + (i - S.vl.length) = i := by omega
      refine ⟨us (i - S.vl.length), by rw [← hfn _ hlj, e1]; rfl, ?_⟩
      have := h6 _ c hj
      rw [e1] at this
      cases ho : isOl c with
      | false => trivial
      | true => exact nob_C hnob hs (by cases c <;> simp [isOl, isLs] at ho <;> rfl) this
theorem ext_rel (hnob : ∀ (T : Nat) (x : Dn T), (cells T x).all PV.nob1 = true) (m : Nat) (h : Rel d nt e S g a w) (t : Nat) :
    ∃ g', Rel d nt e (ext t S) g' a w ∧ ∃ g1, Ext d m g w g1 w ∧ g1.oa = g.oa ∧ g1.no = g.no ∧ g' = g1.setVa g'.va := by
  have same : ∃ g', Rel d nt e S g' a w ∧ ∃ g1, Ext d m g w g1 w ∧ g1.oa = g.oa ∧ g1.no = g.no ∧ g' = g1.setVa g'.va := ⟨g, h, g, .refl _ _ _ _, rfl, rfl, rfl⟩
  unfold ext
  split
  case h_2 => exact same
  rename_i hmm
  cases hv : S.vl.all PV.nob1 with
  | false => exact same
  | true =>
    simp only [cond_true]
    split
    · rename_i T xs hl
      obtain ⟨ht, hr⟩ := h.tm t _ hl
      refine extS_rel hnob h hmm hv ht (us := fun _ => a.tmps.getD t undef) (fun j c hj => ?_) fun g' _ hva => ?_
      · cases j with
        | zero => simp only [List.getElem?_cons_zero, Option.some.injEq] at hj; subst hj; exact hr
        | succ j => simp at hj
      · have hsl : isSlice (a.tmps.getD t undef) := ol_slice (show RepO g w _ T xs _ from hr)
        have := hva 0 T xs rfl hsl
        obtain ⟨A, n, c, hA⟩ := hsl
        rw [Nat.add_zero] at this
        rw [hA] at this ⊢
        exact RepF.vo _ A n c this
    · rename_i cs hl
      cases hn : cs.all (PV.noVo S.vl.length) with
      | false => exact same
      | true =>
        simp only [cond_true]
        obtain ⟨ht, A, h1, h2, h3⟩ := h.tm t _ hl
        have hus : ∀ j c, cs[j]? = some c → RepC g w (.tm d t j) c ((A[j]?).getD undef) := fun j c hj => by
          obtain ⟨u, h4, h5⟩ := h3 j c hj
          rw [h4]; exact h5
        refine extS_rel hnob h hmm hv ht (us := fun j => (A[j]?).getD undef) hus fun g' hF hva => ?_
        refine ⟨A, h1, by rw [extC_len]; exact h2, fun j c hj => ?_⟩
        obtain ⟨q, h4, h5⟩ := extC_at cs _ j hj
        obtain ⟨u, h6, h7⟩ := h3 j q h4
        refine ⟨u, h6, ?_⟩
        rcases h5 with ⟨T, xs, rfl, rfl⟩ | ⟨ho, hcq⟩ | rfl
        · have hsl : isSlice u := ol_slice (show RepO g w _ T xs u from h7)
          have h8 := hva j T xs h4 (by rw [h6]; exact hsl)
          rw [h6] at h8
          obtain ⟨B, n, k, hB⟩ := hsl
          rw [hB] at h8 ⊢
          exact RepF.vo _ B n k h8
        · rw [hcq]
          rw [List.all_eq_true] at hn
          have hnq := hn q (List.mem_of_getElem? h4)
          cases q with
          | ol T xs => simp [isOl, isLs] at ho
          | mp U es => simp [isOl] at ho
          | gone => trivial
          | _ => exact hF _ _ hnq h7
        · trivial
    · exact same
end
end Go.KM
