/- Calls that see a part of the objects alone, and whose own objects none knows behind them. Conditions: none. -/
import Derived.Test.YtdhkmgloghlnnaaDoorKmR
namespace Go.KM
open Go
open Fam (Dn dflt)
open Enc (cells sz mkE glob gany u8)
set_option autoImplicit false
set_option linter.unusedVariables false
set_option linter.unusedSimpArgs false
set_option linter.unusedSectionVars false
section
variable [Enc] {P : Program}
def PV.ren1 (σ : Nat → Nat) : PV → PV
  | .ad (.obj n) o => .ad (.obj (σ n)) o
  | .slf T n y => .slf T (σ n) y
  | .clo f caps => .clo f (caps.map fun x => (σ x.1, x.2))
  | p => p
def PV.rnOk (ok : Nat → Bool) : PV → Bool
  | .ad (.obj n) _ => ok n
  | .slf _ n _ => ok n
  | .clo _ caps => caps.all fun x => ok x.1
  | p => p.nob1
def PV.rnArg (ok : Nat → Bool) : PV → Bool
  | .ad (.obj n) _ => ok n
  | .clo _ caps => caps.all fun x => ok x.1
  | p => p.nob
def idxN (i : Nat) : List Nat → Nat
  | [] => 0
  | j :: r => bif Nat.beq j i then 0 else Nat.succ (idxN i r)
def memN (i : Nat) : List Nat → Bool
  | [] => false
  | j :: r => Nat.beq j i || memN i r
def nodupN : List Nat → Bool
  | [] => true
  | j :: r => !memN j r && nodupN r
def atN (s : List Nat) (j : Nat) : Nat := s.getD j 0
theorem memN_iff {i : Nat} : ∀ {s : List Nat}, memN i s = true ↔ i ∈ s
  | [] => by simp [memN]
  | j :: r => by
    simp only [memN, Bool.or_eq_true, List.mem_cons, memN_iff (s := r)]
    exact ⟨fun h => h.imp (fun h => (Nat.eq_of_beq_eq_true h).symm) id, fun h => h.imp (fun h => by subst h; exact Nat.beq_refl _) id⟩
theorem idxN_at {i : Nat} : ∀ {s : List Nat}, i ∈ s → idxN i s < s.length ∧ atN s (idxN i s) = i
  | [], h => by simp at h
  | j :: r, h => by
    simp only [idxN]
    cases hb : Nat.beq j i with
    | true => exact ⟨by simp, by simp [atN, Nat.eq_of_beq_eq_true hb]⟩
    | false =>
      have hne := Nat.ne_of_beq_eq_false hb
      obtain ⟨h1, h2⟩ := idxN_at (i := i) (s := r) ((List.mem_cons.1 h).resolve_left fun hh => hne hh.symm)
      exact ⟨by simp only [cond_false, List.length_cons]; omega, by simpa [atN] using h2⟩
theorem nodupN_inj : ∀ {s : List Nat}, nodupN s = true → ∀ {i j : Nat}, i < s.length → j < s.length → atN s i = atN s j → i = j
  | [], _, i, _, h, _, _ => by simp at h
  | x :: r, hn, i, j, hi, hj, he => by
    simp only [nodupN, Bool.and_eq_true, Bool.not_eq_true'] at hn
    have hm : x ∉ r := fun hh => by have := memN_iff.2 hh; rw [hn.1] at this; simp at this
    have key : ∀ k, k + 1 < (x :: r).length → atN (x :: r) (k + 1) ∈ r := fun k hk => by
      have hk' : k < r.length := by simpa using hk
      have : atN (x :: r) (k + 1) = r[k] := by simp [atN, hk']
      rw [this]; exact List.getElem_mem hk'
    have z : atN (x :: r) 0 = x := rfl
    cases i with
    | zero => cases j with
      | zero => rfl
      | succ j => exact absurd (by rw [← z, he]; exact key j hj) hm
    | succ i => cases j with
      | zero => exact absurd (by rw [← z, ← he]; exact key i hi) hm
      | succ j =>
        have := nodupN_inj hn.2 (i := i) (j := j) (by simpa using hi) (by simpa using hj) (by simpa [atN] using he)
        omega
structure Ren (g g' : G) (σ : Nat → Nat) (ok : Nat → Bool) : Prop where
  s : Same g g'
  no : ∀ i, ok i = true → σ i < g'.no
  oa : ∀ i, ok i = true → g'.oa (σ i) = g.oa i
  fe : ∀ i, ok i = true → (g'.fe (g.oa i)).1 = (g.fe (g.oa i)).1
variable (hnob : ∀ (T : Nat) (x : Dn T), (cells T x).all PV.nob1 = true)
include hnob
theorem ren_C {g g' : G} {σ : Nat → Nat} {ok : Nat → Bool} (h : Ren g g' σ ok) {w : World} {κ : Key} {p : PV} {v : Value} (hp : p.rnOk ok = true) (hr : RepC g w κ p v) : RepC g' w κ (p.ren1 σ) v := by
  cases p with
  | ad b o => cases b with
    | loc t => simp [PV.rnOk, PV.nob1] at hp
    | obj i =>
      have hr : RepF g (.ad (.obj i) o) v := hr
      have hp : ok i = true := hp
      cases hr
      show RepF g' (.ad (.obj (σ i)) o) _
      rw [← h.oa i hp]
      exact .ad _ _ (h.no i hp)
  | slf T i b =>
    have hr : RepF g (.slf T i b) v := hr
    have hp : ok i = true := hp
    cases hr with
    | slf _ _ _ hT hi =>
    show RepF g' (.slf T (σ i) b) _
    rw [← h.oa i hp]
    exact .slf _ _ _ (by rw [h.oa i hp, h.fe i hp]; exact hT) (h.no i hp)
  | clo f caps =>
    have hr : RepF g (.clo f caps) v := hr
    have hp : (caps.all fun x => ok x.1) = true := hp
    rw [List.all_eq_true] at hp
    cases hr with
    | clo _ _ hc =>
    show RepF g' (.clo f (caps.map fun x => (σ x.1, x.2))) _
    have he : (caps.map fun x => Value.pointer (some ⟨g.oa x.1, x.2, none⟩)) = (caps.map fun x => (σ x.1, x.2)).map fun x => Value.pointer (some ⟨g'.oa x.1, x.2, none⟩) := by
      rw [List.map_map]
      exact List.map_congr_left fun x hx => by simp only [Function.comp]; rw [h.oa x.1 (hp x hx)]
    rw [he]
    exact .clo _ _ fun x hx => by
      obtain ⟨y, hy, rfl⟩ := List.mem_map.1 hx
      exact h.no y.1 (hp y hy)
  | vo i => simp [PV.rnOk, PV.nob1] at hp
  | st cs => simp [PV.rnOk, PV.nob1] at hp
  | tup cs => simp [PV.rnOk, PV.nob1] at hp
  | ol T xs => exact nob_C hnob h.s (p := .ol T xs) rfl hr
  | mp T xs => exact nob_C hnob h.s (p := .mp T xs) rfl hr
  | gone => trivial
  | b x => exact nob_C hnob h.s (p := .b x) (κ := κ) rfl hr
  | i k n => exact nob_C hnob h.s (p := .i k n) (κ := κ) rfl hr
  | s x => exact nob_C hnob h.s (p := .s x) (κ := κ) rfl hr
  | nl => exact nob_C hnob h.s (p := .nl) (κ := κ) rfl hr
  | np => exact nob_C hnob h.s (p := .np) (κ := κ) rfl hr
  | fl T xs => exact nob_C hnob h.s (p := .fl T xs) (κ := κ) rfl hr
  | ifc x => exact nob_C hnob h.s (p := .ifc x) (κ := κ) rfl hr
  | fa T x off => exact nob_C hnob h.s (p := .fa T x off) (κ := κ) rfl hr
  | fp T x => exact nob_C hnob h.s (p := .fp T x) (κ := κ) rfl hr
  | fo T x => exact nob_C hnob h.s (p := .fo T x) (κ := κ) rfl hr
  | zo k => exact nob_C hnob h.s (p := .zo k) (κ := κ) rfl hr
theorem ren_V {g g' : G} {σ : Nat → Nat} {ok : Nat → Bool} (h : Ren g g' σ ok) {w : World} {κ : Key} {p : PV} {v : Value} (hp : p.rnArg ok = true) (hr : RepV g w κ p v) : RepV g' w κ (p.ren1 σ) v := by
  cases p with
  | ad b o => cases b with
    | loc t => simp [PV.rnArg, PV.nob, PV.nob1] at hp
    | obj i => exact ren_C (w := w) (κ := κ) hnob h (p := .ad (.obj i) o) hp hr
  | clo f caps => exact ren_C (w := w) (κ := κ) hnob h (p := .clo f caps) hp hr
  | slf T i b => simp [PV.rnArg, PV.nob, PV.nob1] at hp
  | vo i => simp [PV.rnArg, PV.nob, PV.nob1] at hp
  | st cs => exact nob_V hnob h.s (p := .st cs) hp hr
  | tup cs => exact (show False by have h : RepF g (.tup cs) v := hr; cases h).elim
  | ol T xs => exact nob_V hnob h.s (p := .ol T xs) rfl hr
  | mp T xs => exact nob_V hnob h.s (p := .mp T xs) rfl hr
  | gone => trivial
  | b x => exact nob_V hnob h.s (p := .b x) (κ := κ) rfl hr
  | i k n => exact nob_V hnob h.s (p := .i k n) (κ := κ) rfl hr
  | s x => exact nob_V hnob h.s (p := .s x) (κ := κ) rfl hr
  | nl => exact nob_V hnob h.s (p := .nl) (κ := κ) rfl hr
  | np => exact nob_V hnob h.s (p := .np) (κ := κ) rfl hr
  | fl T xs => exact nob_V hnob h.s (p := .fl T xs) (κ := κ) rfl hr
  | ifc x => exact nob_V hnob h.s (p := .ifc x) (κ := κ) rfl hr
  | fa T x off => exact nob_V hnob h.s (p := .fa T x off) (κ := κ) rfl hr
  | fp T x => exact nob_V hnob h.s (p := .fp T x) (κ := κ) rfl hr
  | fo T x => exact nob_V hnob h.s (p := .fo T x) (κ := κ) rfl hr
  | zo k => exact nob_V hnob h.s (p := .zo k) (κ := κ) rfl hr
omit hnob
def selM (sel : List Nat) (M : List (List PV)) : List (List PV) := sel.map fun i => (M.getD i []).map (PV.ren1 fun k => idxN k sel)
def putM (τ : Nat → Nat) : List Nat → List (List PV) → List (List PV) → List (List PV)
  | i :: s, cs :: r, M => putM τ s r (M.set i (cs.map (PV.ren1 τ)))
  | _, _, M => M
theorem putM_len (τ : Nat → Nat) : ∀ (s : List Nat) (r M : List (List PV)), (putM τ s r M).length = M.length
  | [], _, M => rfl
  | _ :: _, [], M => rfl
  | i :: s, cs :: r, M => by simp only [putM]; rw [putM_len]; simp
theorem putM_at (τ : Nat → Nat) : ∀ (s : List Nat) (r M : List (List PV)), nodupN s = true → (∀ i ∈ s, i < M.length) → s.length = r.length → ∀ k cs, (putM τ s r M)[k]? = some cs →
    (k ∉ s ∧ M[k]? = some cs) ∨ ∃ j cs0, j < s.length ∧ atN s j = k ∧ r[j]? = some cs0 ∧ cs = cs0.map (PV.ren1 τ)
  | [], r, M, _, _, _, k, cs, h => .inl ⟨by simp, h⟩
  | i :: s, [], M, _, _, hl, k, cs, h => by simp at hl
  | i :: s, c :: r, M, hn, hlt, hl, k, cs, h => by
    simp only [nodupN, Bool.and_eq_true, Bool.not_eq_true'] at hn
    have hm : i ∉ s := fun hh => by have := memN_iff.2 hh; rw [hn.1] at this; simp at this
    simp only [putM] at h
    rcases putM_at τ s r (M.set i (c.map (PV.ren1 τ))) hn.2 (fun j hj => by rw [List.length_set]; exact hlt j (List.mem_cons_of_mem _ hj)) (by simpa using hl) k cs h with ⟨h1, h2⟩ | ⟨j, cs0, h1, h2, h3, h4⟩
    · by_cases hk : i = k
      · subst hk
        rw [List.getElem?_set_self (hlt i (by simp))] at h2
        exact .inr ⟨0, c, by simp, rfl, rfl, (Option.some.inj h2).symm⟩
      · rw [List.getElem?_set_ne hk] at h2
        exact .inl ⟨fun hh => (List.mem_cons.1 hh).elim (fun hh => hk hh.symm) h1, h2⟩
    · exact .inr ⟨j + 1, cs0, by simp only [List.length_cons]; omega, by simpa [atN] using h2, by simpa using h3, h4⟩
def ConS (P : Program) (f : FuncId) (args : List PV) (M : List (List PV)) (v : PV) (M' : List (List PV)) : Prop :=
  ∀ (d : Nat) (g : G) (w : World) (vals : Array Value), vals.size = args.length → (∀ i p, args[i]? = some p → ∃ u, vals[i]? = some u ∧ RepV g w (.ar d i) p u) → MemRep g w M → M.length = g.no → WF g w →
    Calls P f vals w fun en w' => ∃ r g', en = .returned r ∧ RepT g' w' (Key.rt d) v r ∧ MemRep g' w' M' ∧ WF g' w' ∧ Ext d M.length g w g' w'
theorem fn_soundS {f : FuncId} {G : Fn} {c : Code} {C : CTab} {β : Type} {Kr : PV → List (List PV) → Option β} {res : β} {n : Nat} {ps : List PV} {M : List (List PV)} {v : PV} {M' : List (List PV)}
    (hf : FnOk P f G c) (hT : TabOk P G.x.T) (hF : ∀ t z, G.x.T.flat t = some z → FlatOk P t z) (hC : CTabOk P C) (hps : ps.all argOk = true) (hn : ps.length ≤ G.x.nt) (he : G.x.e = true) (hX : ∀ t, G.x.xt t = true → false = true) (hw : G.w = false)
    (hK : ∀ pv M2, Kr pv M2 = some res → (∀ (g : KM.G) (w : World) (κ : Nat → Key) (r : Value), RepT g w κ pv r → RepT g w κ v r) ∧ ∀ (g : KM.G) (w : World), MemRep g w M2 → MemRep g w M') (h : ev G C Kr n [.code c 1] (entry ps M) = some res) : ConS P f ps M v M' := by
  intro d g w vals h1 h2 h3 h4 h5
  refine (fn_soundX (cs := []) (v := v) (R := fun M2 _ => ∀ (g : KM.G) (w : World), MemRep g w M2 → MemRep g w M') hf hT hF hC hps hn (fun hh => absurd (he.symm.trans hh) (by simp)) hX (fun pv M2 cs2 hk => by rw [hw] at hk; exact hK pv M2 hk) h d g w vals h1 h2 h3 (fun _ => h4) (fun i p hi => by simp at hi) h5).mono fun e w' ⟨r, g', M2, cs2, k1, k2, k4, k5, k6, k7, k8, k9, k10, k11⟩ => ?_
  rw [setVa_eq (k11 rfl)] at k10
  exact ⟨r, g', k1, k4, k2 _ _ k5, k9, k10⟩
include hnob
theorem con_sub {f : FuncId} {ps : List PV} {M M1 : List (List PV)} {v : PV} (sel : List Nat) (hn : nodupN sel = true) (hlt : ∀ i ∈ sel, i < M.length) (hps : ∀ p ∈ ps, p.rnArg (fun k => memN k sel) = true)
    (hcs : ∀ i ∈ sel, ∀ c ∈ M.getD i [], c.rnOk (fun k => memN k sel) = true) (h : ConS P f (ps.map (PV.ren1 fun k => idxN k sel)) (selM sel M) v M1) (hv : v.nob = true) (hl : sel.length = M1.length)
    (hc1 : ∀ cs ∈ M1, ∀ c ∈ cs, c.rnOk (fun k => Nat.blt k sel.length) = true) : Con P true f ps M v (putM (atN sel) sel M1 M) := by
  intro d g w vals h1 h2 h3 h4 h5
  have h4 := h4 rfl
  let g1 : KM.G := { g with no := sel.length, oa := fun j => g.oa (atN sel j) }
  have s1 : Same g g1 := ⟨rfl, rfl, rfl⟩
  have selLt : ∀ j, j < sel.length → atN sel j < M.length := fun j hj => hlt _ (by
    have : atN sel j = sel[j] := by simp [atN, hj]
    rw [this]; exact List.getElem_mem hj)
  have r1 : Ren g g1 (fun k => idxN k sel) (fun k => memN k sel) := by
    refine ⟨s1, fun i hi => (idxN_at (memN_iff.1 hi)).1, fun i hi => ?_, fun i hi => rfl⟩
    show g.oa (atN sel (idxN i sel)) = g.oa i
    rw [(idxN_at (memN_iff.1 hi)).2]
  have hw1 : WF g1 w := ⟨nob_gl hnob s1 h5.gl, h5.own, h5.fz, h5.ob, fun j hj => h5.ol _ (by have := selLt j hj; omega),
    fun i j hi hj he => nodupN_inj hn hi hj (h5.inj _ _ (by have := selLt i hi; omega) (by have := selLt j hj; omega) he), fun j hj => h5.oe _ (by have := selLt j hj; omega)⟩
  have hM1 : MemRep g1 w (selM sel M) := by
    intro j cs hj
    simp only [selM, List.getElem?_map, Option.map_eq_some_iff] at hj
    obtain ⟨i, hi, rfl⟩ := hj
    obtain ⟨hjl, hij⟩ := List.getElem?_eq_some_iff.1 hi
    have hat : atN sel j = i := by simp [atN, hjl, hij]
    have him : i ∈ sel := by rw [← hij]; exact List.getElem_mem hjl
    have hMi : M[i]? = some (M.getD i []) := by simp [hlt i him]
    obtain ⟨k1, k2, C, E, k3, k4, k5⟩ := h3 i _ hMi
    have hoa : g1.oa j = g.oa i := congrArg g.oa hat
    rw [hoa]
    refine ⟨hjl, k2, C, E, k3, by rw [k4]; simp, fun q c hq => ?_⟩
    simp only [List.getElem?_map, Option.map_eq_some_iff] at hq
    obtain ⟨c0, hq0, rfl⟩ := hq
    obtain ⟨u, k6, k7⟩ := k5 q c0 hq0
    exact ⟨u, k6, ren_C hnob r1 (hcs i him c0 (List.mem_of_getElem? hq0)) k7⟩
  refine (h d g1 w vals (by simpa using h1) (fun i p hi => ?_) hM1 (by simp [selM, g1]) hw1).mono fun e w' ⟨r, g2, k1, k2, k3, k6, k7⟩ => ?_
  · simp only [List.getElem?_map, Option.map_eq_some_iff] at hi
    obtain ⟨p0, hi0, rfl⟩ := hi
    obtain ⟨u, h6, h7⟩ := h2 i p0 hi0
    exact ⟨u, h6, ren_V hnob r1 (hps p0 (List.mem_of_getElem? hi0)) h7⟩
  · have hlen : (selM sel M).length = sel.length := by simp [selM]
    rw [hlen] at k7
    have no2 : sel.length ≤ g2.no := k7.gr.no
    have oa2 : ∀ j, j < sel.length → g2.oa j = g.oa (atN sel j) := fun j hj => k7.gr.oa j hj
    let g3 : KM.G := { g2 with no := g.no, oa := g.oa, fe := fun x => match g.own x with | some .obj => g.fe x | _ => g2.fe x }
    have s3 : Same g2 g3 := ⟨rfl, rfl, rfl⟩
    have outer : ∀ b κ, Outer d M.length g b κ → Outer d sel.length g1 b κ := fun b κ ho => by
      cases κ with
      | obj => exact fun j hj => ho _ (selLt j hj)
      | ob b' q => exact fun j hj => ho _ (selLt j hj)
      | _ => exact ho
    have out : ∀ b, g.own b = some .obj → g2.own b = some .obj ∧ ((∀ j, j < sel.length → g.oa (atN sel j) ≠ b) → w'.heap[b]? = w.heap[b]?) := fun b hb' => by
      by_cases hex : ∃ j, j < sel.length ∧ g.oa (atN sel j) = b
      · obtain ⟨j, hj, hjb⟩ := hex
        have := (k6.oe j (by omega)).1
        rw [oa2 j hj, hjb] at this
        exact ⟨this, fun hh => absurd hjb (hh j hj)⟩
      · have hno : ∀ j, j < sel.length → g.oa (atN sel j) ≠ b := fun j hj hh => hex ⟨j, hj, hh⟩
        have := k7.own b .obj hb' hno
        exact ⟨this.1, fun _ => this.2⟩
    have nobj : ∀ b C, g2.fz b = some C → g.own b ≠ some .obj := fun b C hz hh => by
      have := (k6.fz b C hz).1
      rw [(out b hh).1] at this; cases this
    have feN : ∀ b, g.own b ≠ some .obj → g3.fe b = g2.fe b := fun b hb' => by
      show (match g.own b with | some .obj => g.fe b | _ => g2.fe b) = g2.fe b
      split
      · rename_i hh; exact absurd hh hb'
      · rfl
    have feO : ∀ i, i < g.no → g3.fe (g.oa i) = g.fe (g.oa i) := fun i hi => by
      show (match g.own (g.oa i) with | some .obj => g.fe (g.oa i) | _ => g2.fe (g.oa i)) = _
      rw [(h5.oe i hi).1]
    have fe2 : ∀ j, j < sel.length → (g2.fe (g.oa (atN sel j))).1 = (g.fe (g.oa (atN sel j))).1 := fun j hj => k7.gr.oe j hj
    have hno : ∀ i, i < M.length → i < g.no := fun i hi => by omega
    have ist : ∀ i, i < g.no → ∀ j, j < sel.length → g.oa (atN sel j) = g.oa i → atN sel j = i := fun i hi j hj he => h5.inj _ _ (hno _ (selLt j hj)) hi he
    have wf3 : WF g3 w' := by
      refine ⟨nob_gl hnob s3 k6.gl, k6.own, fun b C hz => by rw [feN b (nobj b C hz)]; exact k6.fz b C hz, k6.ob, fun i hi => Nat.lt_of_lt_of_le (h5.ol i hi) k7.hs, h5.inj, fun i hi => ?_⟩
      obtain ⟨q0, C, fr, q1⟩ := h5.oe i hi
      obtain ⟨q2, q3⟩ := out _ q0
      refine ⟨q2, ?_⟩
      show ∃ C fr, w'.heap[g.oa i]? = some (.cells C (g3.fe (g.oa i)).1 fr)
      rw [feO i hi]
      by_cases hex : ∃ j, j < sel.length ∧ g.oa (atN sel j) = g.oa i
      · obtain ⟨j, hj, hji⟩ := hex
        obtain ⟨_, C2, fr2, q5⟩ := k6.oe j (by omega)
        rw [oa2 j hj, fe2 j hj, hji] at q5
        exact ⟨C2, fr2, q5⟩
      · rw [q3 fun j hj hh => hex ⟨j, hj, hh⟩]; exact ⟨C, fr, q1⟩
    have gr3 : Grow g g3 := ⟨k7.gr.fz, Nat.le_refl _, fun _ _ => rfl, fun b C hz => by
      rw [feN b (nobj b C (k7.gr.fz b C hz))]; exact k7.gr.fe b C hz, k7.gr.va, fun i hi => by rw [feO i hi]⟩
    have r3 : Ren g2 g3 (atN sel) (fun k => Nat.blt k sel.length) := by
      refine ⟨s3, fun j hj => ?_, fun j hj => ?_, fun j hj => ?_⟩
      · exact hno _ (selLt j (by simpa [Nat.blt, Nat.succ_le_iff] using hj))
      · exact (oa2 j (by simpa [Nat.blt, Nat.succ_le_iff] using hj)).symm
      · have hj : j < sel.length := by simpa [Nat.blt, Nat.succ_le_iff] using hj
        rw [oa2 j hj, feO _ (hno _ (selLt j hj)), fe2 j hj]
    refine ⟨r, g3, k1, nob_T hnob s3 hv k2, ?_, fun _ => by rw [putM_len]; exact h4, fun hh => by simp at hh, wf3, ⟨gr3, fun b κ hb' ho => k7.own b κ hb' (outer b κ ho), k7.hs, fun i h1 h2 => absurd (Nat.lt_of_le_of_lt h1 h2) (Nat.lt_irrefl _), k7.sl⟩⟩
    intro i cs hi
    rcases putM_at (atN sel) sel M1 M hn hlt hl i cs hi with ⟨hi1, hi2⟩ | ⟨j, cs0, hj, hji, hj0, rfl⟩
    · have hil := (List.getElem?_eq_some_iff.1 hi2).1
      have hM0 : MemRep (g.setLb g3.lb) w M := memRep_lb h3
      obtain ⟨a1, a2, C, E, a3, a4⟩ := hM0 i cs hi2
      have nosel : ∀ j, j < sel.length → g.oa (atN sel j) ≠ g.oa i := fun j hj he => by
        have := ist i (hno i hil) j hj he
        apply hi1
        rw [← this]
        have : atN sel j = sel[j] := by simp [atN, hj]
        rw [this]; exact List.getElem_mem hj
      obtain ⟨a5, a6⟩ := out _ a2
      have hK : Keep (fun b κ => ¬ Outer d sel.length g1 b κ) (g.setLb g3.lb) w g3 w' := ⟨⟨gr3.fz, gr3.no, gr3.oa, gr3.fe, gr3.va, gr3.oe⟩, rfl, fun b κ hb hx => k7.own b κ hb (Classical.not_not.1 hx)⟩
      refine ⟨hno i hil, a5, C, E, (a6 nosel).trans a3, a4.keep hK fun q c hq ho b hb hx => hx ?_⟩
      exact fun j hj => nosel j hj
    · obtain ⟨a1, a2, C, E, a3, a4, a5⟩ := k3 j cs0 hj0
      rw [oa2 j hj, hji] at a2 a3 a5
      refine ⟨by rw [← hji]; exact hno _ (selLt j hj), a2, C, E, a3, by rw [a4]; simp, fun q c hq => ?_⟩
      simp only [List.getElem?_map, Option.map_eq_some_iff] at hq
      obtain ⟨c0, hq0, rfl⟩ := hq
      obtain ⟨u, a6, a7⟩ := a5 q c0 hq0
      exact ⟨u, a6, ren_C hnob r3 (hc1 cs0 (List.mem_of_getElem? hj0) c0 (List.mem_of_getElem? hq0)) a7⟩
end
end Go.KM
