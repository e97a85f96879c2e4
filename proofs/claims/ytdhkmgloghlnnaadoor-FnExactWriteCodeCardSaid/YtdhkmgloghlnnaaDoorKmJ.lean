/- New variables, built structs, parts of tuples. Conditions: none. -/
import Derived.Test.YtdhkmgloghlnnaaDoorKmI
namespace Go.KM
open Go
open Fam (Dn dflt)
open Enc (cells sz mkE glob gany u8)
set_option autoImplicit false
set_option linter.unusedVariables false
set_option linter.unusedSimpArgs false
set_option linter.unusedSectionVars false
section
variable [Enc] {d nt : Nat} {e : Option Nat} {S : St} {g g' : G} {a : Act} {w w' : World} {P : Program}
theorem heap_alloc_old' (w : World) (o : Obj) (k : Nat) (h : k ≠ w.heap.size) : (w.alloc o).heap[k]? = w.heap[k]? := by
  simp only [World.alloc, Array.getElem?_push]
  rw [if_neg h]
theorem alloc_size (w : World) (o : Obj) : (w.alloc o).heap.size = w.heap.size + 1 := by show (w.heap.push o).size = _; simp
def G.new (g : G) (b : Nat) (κ : Key) : G := { g with own := fun x => if x = b then some κ else g.own x }
theorem keep_alloc (h : WF g w) (o : Obj) (κ : Key) : Keep (fun _ _ => False) g w (g.new w.heap.size κ) (w.alloc o) := by
  refine ⟨⟨fun _ _ h => h, Nat.le_refl _, fun _ _ => rfl, fun _ _ _ => rfl, rfl, fun _ _ => rfl⟩, rfl, fun b k hb _ => ?_⟩
  have hlt := h.own b k hb
  have hne : b ≠ w.heap.size := by omega
  exact ⟨by simp only [G.new, if_neg hne]; exact hb, heap_alloc_old' w o b hne⟩
theorem wf_alloc (h : WF g w) (o : Obj) (κ : Key) (hκ : ∀ b' j, κ = .ob b' j → b' < w.heap.size + 1) : WF (g.new w.heap.size κ) (w.alloc o) := by
  refine ⟨gl_mono (keep_alloc h o κ).gr h.gl, fun b k hb => ?_, fun b C hf => ?_, fun b b' j hb => ?_, fun i hi => ?_, h.inj, fun i hi => by
    obtain ⟨k0, k1⟩ := h.oe_row (RowTy.of_same fun k hk => heap_alloc_old' w o k (by omega)) i hi
    have hne : g.oa i ≠ w.heap.size := by have := h.ol i hi; omega
    exact ⟨by simp only [G.new, if_neg hne]; exact k0, k1⟩⟩
  · rw [alloc_size]
    simp only [G.new] at hb
    split at hb
    · rename_i hh; omega
    · have := h.own b k hb; omega
  · obtain ⟨h1, h2⟩ := h.fz b C hf
    have hlt := (Array.getElem?_eq_some_iff.1 h2).1
    have hne : b ≠ w.heap.size := by omega
    exact ⟨by simp only [G.new, if_neg hne]; exact h1, by rw [heap_alloc_old' w o b hne]; exact h2⟩
  · rw [alloc_size]
    simp only [G.new] at hb
    split at hb
    · simp only [Option.some.injEq] at hb; exact hκ b' j hb
    · have := h.ob b b' j hb; omega
  · rw [alloc_size]; have := h.ol i hi; simp only [G.new]; omega
theorem Rel.alloc (h : Rel d nt e S g a w) (o : Obj) (κ : Key) (hκ : ∀ b' j, κ = .ob b' j → b' < w.heap.size + 1) : Rel d nt e S (g.new w.heap.size κ) a (w.alloc o) :=
  h.keep (keep_alloc h.wf o κ) (fun _ => rfl) (fun _ _ hx => hx.elim) (.inr fun b k hb hc => by
    have := (keep_alloc h.wf o κ).own b k hb id
    exact ⟨this.2, k, this.1, hc⟩) (wf_alloc h.wf o κ hκ)
theorem ext_alloc (h : WF g w) (m : Nat) (o : Obj) (κ : Key) : Ext d m g w (g.new w.heap.size κ) (w.alloc o) :=
  ⟨(keep_alloc h o κ).gr, fun b k hb _ => (keep_alloc h o κ).own b k hb id, by rw [alloc_size]; omega, fun i h1 h2 => by simp only [G.new] at h2; omega, ⟨rfl, rfl, rfl⟩⟩
theorem lk_dropLoc {t : Nat} {l : List (Nat × PV)} {u : Nat} {p : PV} (h : lk (dropLoc t l) u = some p) : p = .gone ∧ (∃ q, lk l u = some q) ∨ (lk l u = some p ∧ p.locIs t = false) := by
  induction l with
  | nil => simp [dropLoc, lk] at h
  | cons x l ih =>
    obtain ⟨v, q⟩ := x
    simp only [dropLoc] at h
    rw [lk_cons] at h ⊢
    by_cases hv : v = u
    · subst hv
      simp only [if_true, Option.some.injEq] at h ⊢
      cases hc : q.locIs t with
      | true => simp only [hc, cond_true] at h; exact .inl ⟨h.symm, q, rfl⟩
      | false => simp only [hc, cond_false] at h; subst h; exact .inr ⟨rfl, hc⟩
    · simp only [hv, if_false] at h ⊢
      exact ih h
def G.lab (g : G) (t b : Nat) : G := { g with lb := fun u => if u = t then b else g.lb u }
theorem repC_lab {t b : Nat} {κ : Key} {p : PV} {v : Value} (h : RepC g w κ p v) : RepC (g.lab t b) w κ p v := by
  have hg : Grow g (g.lab t b) := ⟨fun _ _ h => h, Nat.le_refl _, fun _ _ => rfl, fun _ _ _ => rfl, rfl, fun _ _ => rfl⟩
  cases p with
  | ol T xs => obtain ⟨vs, h1, h2, h3⟩ := h; exact ⟨vs, h1, h2, fun i x hi => (h3 i x hi).mono hg⟩
  | mp U es => obtain ⟨r, ms, ck, h1, h2, h3, h4, h5⟩ := h; exact ⟨r, ms, ck, h1, h2, h3, h4, fun i x hi => let ⟨q, a1, a2, c, a3, a4⟩ := h5 i x hi; ⟨q, a1, a2, c, a3, a4.mono hg⟩⟩
  | gone => trivial
  | _ => exact RepF.mono hg h
theorem repV_lab {t b : Nat} {κ : Key} {p : PV} {v : Value} (hp : p.locIs t = false) (h : RepV g w κ p v) : RepV (g.lab t b) w κ p v := by
  have hg : Grow g (g.lab t b) := ⟨fun _ _ h => h, Nat.le_refl _, fun _ _ => rfl, fun _ _ _ => rfl, rfl, fun _ _ => rfl⟩
  cases p with
  | st cs => obtain ⟨A, h1, h2, h3⟩ := h; exact ⟨A, h1, h2, h3.mono hg⟩
  | ad bs off => cases bs with
    | loc u =>
      have hu : u ≠ t := beq_false hp
      simp only [RepV, G.lab, if_neg hu] at h ⊢
      exact h
    | obj i => exact repC_lab (w := w) (κ := κ) (p := .ad (.obj i) off) h
  | gone => trivial
  | ol T xs => exact repC_lab (p := .ol T xs) h
  | mp U es => exact repC_lab (p := .mp U es) h
  | _ => exact RepF.mono hg h
theorem repT_lab {t b : Nat} {κ : Nat → Key} {p : PV} {v : Value} (hp : p.locIs t = false) (h : RepT g w κ p v) : RepT (g.lab t b) w κ p v := by
  have hg : Grow g (g.lab t b) := ⟨fun _ _ h => h, Nat.le_refl _, fun _ _ => rfl, fun _ _ _ => rfl, rfl, fun _ _ => rfl⟩
  cases p with
  | tup vs => simp [PV.locIs] at hp
  | st cs => obtain ⟨A, h1, h2, h3⟩ := h; exact ⟨A, h1, h2, fun j c hj => let ⟨u, h4, h5⟩ := h3 j c hj; ⟨u, h4, repC_lab h5⟩⟩
  | ol T xs => exact repV_lab (p := .ol T xs) rfl h
  | mp U es => exact repV_lab (p := .mp U es) rfl h
  | ad bs off => exact repV_lab (w := w) (κ := κ 0) (p := .ad bs off) hp h
  | gone => trivial
  | _ => exact RepF.mono hg h
theorem Rel.newLoc (h : Rel d nt e S g a w) {t b : Nat} {cs : List PV} {C : Array Value} {E : TypeId} (ho : g.own b = some (.loc d t)) (hb : w.heap[b]? = some (.cells C E (0, 0))) (hk : RepK g w (Key.lc d t) cs C) :
    Rel d nt e { tm := dropLoc t S.tm, lc := (t, cs) :: S.lc, mm := S.mm, rt := [], vl := S.vl } (g.lab t b) a w := by
  refine ⟨h.sz, fun u p hp => ?_, fun u cs2 hu => ?_, fun i cs2 hi => ?_, h.no, fun u r hr => by simp [lk] at hr, ⟨gl_mono (g := g) (g' := g.lab t b) ⟨fun _ _ h => h, Nat.le_refl _, fun _ _ => rfl, fun _ _ _ => rfl, rfl, fun _ _ => rfl⟩ h.wf.gl, h.wf.own, h.wf.fz, h.wf.ob, h.wf.ol, h.wf.inj, h.wf.oe⟩, h.df, fun i p hi => let ⟨v, h1, h2⟩ := h.vl i p hi; ⟨v, h1, repC_lab h2⟩⟩
  · rcases lk_dropLoc hp with ⟨rfl, q, h1⟩ | ⟨h1, h2⟩
    · exact ⟨(h.tm u q h1).1, trivial⟩
    · exact ⟨(h.tm u p h1).1, repT_lab h2 (h.tm u p h1).2⟩
  · have hu : lk ((t, cs) :: S.lc) u = some cs2 := hu
    rw [lk_cons] at hu
    by_cases hut : t = u
    · subst hut
      simp only [if_true, Option.some.injEq] at hu
      subst hu
      simp only [G.lab, if_true]
      exact ⟨ho, C, E, hb, hk.1, fun j c hj => let ⟨v, h1, h2⟩ := hk.2 j c hj; ⟨v, h1, repC_lab h2⟩⟩
    · simp only [hut, if_false] at hu
      obtain ⟨h1, C2, E2, h2, h3⟩ := h.lc u cs2 hu
      have hne : u ≠ t := fun hh => hut hh.symm
      simp only [G.lab, if_neg hne]
      exact ⟨h1, C2, E2, h2, h3.1, fun j c hj => let ⟨v, h4, h5⟩ := h3.2 j c hj; ⟨v, h4, repC_lab h5⟩⟩
  · obtain ⟨h0, h1, C2, E2, h2, h3⟩ := h.mm i cs2 hi
    exact ⟨h0, h1, C2, E2, h2, h3.1, fun j c hj => let ⟨v, h4, h5⟩ := h3.2 j c hj; ⟨v, h4, repC_lab h5⟩⟩
def G.obj (g : G) (b : Nat) (E : TypeId) : G := { g with no := g.no + 1, oa := fun i => if i = g.no then b else g.oa i, fe := fun x => if x = b then (E, (0, 0)) else g.fe x }
theorem grow_obj (g : G) (b : Nat) (E : TypeId) (hz : ∀ C, g.fz b ≠ some C) (hfresh : ∀ i, i < g.no → g.oa i ≠ b) : Grow g (g.obj b E) := by
  refine ⟨fun _ _ h => h, Nat.le_succ _, fun i hi => ?_, fun b' C hb' => ?_, rfl, fun i hi => ?_⟩
  · have : i ≠ g.no := by omega
    simp only [G.obj, if_neg this]
  · have : b' ≠ b := fun hh => by subst hh; exact hz C hb'
    simp only [G.obj, if_neg this]
  · simp only [G.obj, if_neg (hfresh i hi)]
theorem keep_obj (g : G) (b : Nat) (E : TypeId) (hz : ∀ C, g.fz b ≠ some C) (hfresh : ∀ i, i < g.no → g.oa i ≠ b) (w : World) : Keep (fun _ _ => False) g w (g.obj b E) w := ⟨grow_obj g b E hz hfresh, rfl, fun _ _ h _ => ⟨h, rfl⟩⟩
theorem WF.nfz (h : WF g w) {b : Nat} {κ : Key} (ho : g.own b = some κ) : ∀ C, g.fz b ≠ some C := fun C hh => by
  have := (h.fz b C hh).1
  rw [ho] at this; cases this
theorem Rel.newObj (h : Rel d nt none S g a w) (he : S.mm.length = g.no) {b : Nat} {cs : List PV} {C : Array Value} {E : TypeId} (ho : g.own b = some .obj) (hfresh : ∀ i, i < g.no → g.oa i ≠ b)
    (hb : w.heap[b]? = some (.cells C E (0, 0))) (hk : RepK g w (Key.ob b) cs C) :
    Rel d nt none { tm := S.tm, lc := S.lc, mm := S.mm ++ [cs], rt := [], vl := S.vl } (g.obj b E) a w := by
  have hK := keep_obj g b E (h.wf.nfz ho) hfresh w
  have no : ∀ {κ : Key}, ∀ b', g.own b' = some κ → ¬ False := fun _ _ h => h
  refine ⟨h.sz, fun u p hp => ⟨(h.tm u p hp).1, (h.tm u p hp).2.keep hK fun _ _ _ _ h => h⟩, fun u cs2 hu => ?_, fun i cs2 hi => ?_, by simp [NoOk, G.obj, he], fun u r hr => by simp [lk] at hr, ⟨gl_mono hK.gr h.wf.gl, h.wf.own, fun b' C' hb' => ?fz, h.wf.ob, fun i hi => ?_, fun i j hi hj hij => ?_, fun i hi => ?oe⟩, h.df, fun i p hi => let ⟨v, h1, h2⟩ := h.vl i p hi; ⟨v, h1, h2.keep hK fun _ _ _ h => h⟩⟩
  case fz =>
    obtain ⟨h1, h2⟩ := h.wf.fz b' C' hb'
    have hne : b' ≠ b := fun hh => by subst hh; exact h.wf.nfz ho C' hb'
    refine ⟨h1, ?_⟩
    simp only [G.obj, if_neg hne]; exact h2
  case oe =>
    simp only [G.obj] at hi ⊢
    by_cases hin : i = g.no
    · rw [if_pos hin, if_pos rfl]; exact ⟨ho, C, (0, 0), hb⟩
    · rw [if_neg hin, if_neg (hfresh i (by omega))]; exact h.wf.oe i (by omega)
  · obtain ⟨h1, C2, E2, h2, h3⟩ := h.lc u cs2 hu
    exact ⟨h1, C2, E2, h2, h3.keep hK fun _ _ _ _ _ _ h => h⟩
  · have hi' : (S.mm ++ [cs])[i]? = some cs2 := hi
    by_cases hlt : i < S.mm.length
    · rw [List.getElem?_append_left hlt] at hi'
      obtain ⟨h0, h1, C2, E2, h2, h3⟩ := h.mm i cs2 hi'
      have hne : i ≠ g.no := by omega
      simp only [G.obj, if_neg hne]
      exact ⟨by omega, h1, C2, E2, h2, h3.keep hK fun _ _ _ _ _ _ h => h⟩
    · have hi2 : i = S.mm.length := by
        have := (List.getElem?_eq_some_iff.1 hi').1
        simp at this; omega
      subst hi2
      rw [List.getElem?_append_right (Nat.le_refl _)] at hi'
      simp only [Nat.sub_self, List.getElem?_cons_zero, Option.some.injEq] at hi'
      subst hi'
      simp only [G.obj, he, if_true]
      exact ⟨by omega, ho, C, E, hb, hk.keep hK fun _ _ _ _ _ _ h => h⟩
  · simp only [G.obj] at hi ⊢
    split
    · exact h.wf.own _ _ ho
    · exact h.wf.ol i (by omega)
  · simp only [G.obj] at hi hj hij
    split at hij <;> split at hij
    · omega
    · exact absurd hij.symm (hfresh j (by omega))
    · exact absurd hij (hfresh i (by omega))
    · exact h.wf.inj i j (by omega) (by omega) hij
theorem Rel.mark (h : Rel d nt e S g a w) {i : Nat} {r : List PV} (hi : S.mm[i]? = some (.np :: r)) : Rel d nt e { S with mm := S.mm.set i (.slf (g.fe (g.oa i)).1 i false :: r), rt := [] } g a w := by
  have hlt := (List.getElem?_eq_some_iff.1 hi).1
  refine ⟨h.sz, h.tm, h.lc, fun k cs hk => ?_, by simpa using h.no, fun u q hu => by simp [lk] at hu, h.wf, h.df, h.vl⟩
  have hk : (S.mm.set i (.slf (g.fe (g.oa i)).1 i false :: r))[k]? = some cs := hk
  by_cases hik : i = k
  · subst hik
    rw [List.getElem?_set_self hlt] at hk
    simp only [Option.some.injEq] at hk
    subst hk
    obtain ⟨h0, h1, C, E, h2, h3, h4⟩ := h.mm i _ hi
    refine ⟨h0, h1, C, E, h2, h3, fun j c hj => ?_⟩
    cases j with
    | zero =>
      simp only [List.getElem?_cons_zero, Option.some.injEq] at hj
      subst hj
      obtain ⟨u, k1, k2⟩ := h4 0 .np rfl
      refine ⟨u, k1, ?_⟩
      have k2 : RepF g .np u := k2
      cases k2
      exact RepF.slf _ i false rfl h0
    | succ j => exact h4 (j + 1) c hj
  · rw [List.getElem?_set_ne hik] at hk
    exact h.mm k cs hk
theorem newVar_ran {F : Fx} {t ty : Nat} {cs : List PV} {A : Array Value} {κ : Nat → Key} {r : Result Next} (hF : F.e = e.isNone) (ht : t < nt) (h : Rel d nt e S g a w) (hm : ∀ m g j, Mine d m g w (κ j)) (hf : ∀ g j, Free d S g (κ j)) (hi : ∀ i j, κ i = κ j → i = j)
    (h6 : ∀ i j, κ i ≠ Key.tm d t j) (h7 : ∀ i b j g, κ i ≠ ckey d g b j) (hs : A.size = cs.length) (hc : ∀ j c, cs[j]? = some c → ∃ u, A[j]? = some u ∧ RepC g w (κ j) c u)
    (hr : r = .ok (.value (.pointer (some ⟨w.heap.size, 0, none⟩))) (w.alloc (.cells A ty))) : Ran d nt e S.mm.length (newVar F t cs S) g a w t r := by
  unfold newVar
  cases hb : F.e && F.esc t with
  | false =>
    simp only [cond_false]
    -- a block, the owned lists go to its cells
    have h1 := h.noR.alloc (.cells A ty) (.loc d t) (fun _ _ hh => by simp at hh)
    have k1 := keep_alloc h.wf (.cells A ty) (.loc d t)
    obtain ⟨g2, h2, h3, h4, h5, h8, h9, h10⟩ := h1.moveCells (m := S.mm.length) cs (fun j => (A[j]?).getD undef) κ (fun j => .lc d t j) (fun j => by
        have := hm S.mm.length (g.new w.heap.size (.loc d t)) j
        cases hk : κ j <;> rw [hk] at this <;> first | exact this | (exact ⟨this.1, by rw [alloc_size]; have := this.2; omega⟩)) (fun j => Nat.le_refl d) (fun j _ => by
        have := hf (g.new w.heap.size (.loc d t)) j
        exact ⟨this.tm, this.lc, this.mm, this.vl⟩) hi (fun i j => h7 i (.loc t) j g) (fun j c hj => by
        obtain ⟨u, h11, h12⟩ := hc j c hj
        simp only [h11, Option.getD_some]
        exact h12.keep k1 fun _ _ _ => id)
    have hown : g2.own w.heap.size = some (.loc d t) := (h10.own _ _ (by simp [G.new]) fun ⟨j, hj⟩ => by have := hm 0 g j; rw [← hj] at this; exact this.elim).1
    have h11 := h2.newLoc (t := t) (b := w.heap.size) (cs := cs) (C := A) (E := ty) hown (heap_alloc_new w _) ⟨hs, fun j c hj => by
      obtain ⟨u, h12, _⟩ := hc j c hj
      have := h9 j c hj
      simp only [h12, Option.getD_some] at this
      exact ⟨u, h12, this⟩⟩
    have h12 := h11.setT (t := t) (p := .ad (.loc t) 0) (v := .pointer (some ⟨w.heap.size, 0, none⟩)) ht (by simp [RepT, RepV, G.lab])
    refine ⟨_, _, _, hr, h12, ?_⟩
    have e1 := (ext_alloc (d := d) h.wf S.mm.length (.cells A ty) (.loc d t)).trans' h3 rfl rfl
    exact ⟨e1.gr.trans ⟨fun _ _ h => h, Nat.le_refl _, fun _ _ => rfl, fun _ _ _ => rfl, rfl, fun _ _ => rfl⟩, e1.own, e1.hs, e1.nw, e1.sl⟩
  | true =>
    simp only [cond_true]
    simp only [Bool.and_eq_true] at hb
    have hen : e = none := by
      have := hF ▸ hb.1
      cases e <;> simp_all
    subst hen
    have he : S.mm.length = g.no := h.no
    have h1 := h.noR.alloc (.cells A ty) .obj (fun _ _ hh => by simp at hh)
    have k1 := keep_alloc h.wf (.cells A ty) .obj
    have hfresh : ∀ i, i < g.no → g.oa i ≠ w.heap.size := fun i hi => by have := h.wf.ol i hi; omega
    have hown0 : (g.new w.heap.size .obj).own w.heap.size = some .obj := by simp [G.new]
    -- the object without its owned lists first
    have h2 := h1.newObj (b := w.heap.size) (cs := cs.map fun c => bif isOl c then .gone else c) (C := A) (E := ty) he hown0 hfresh (heap_alloc_new w _) ⟨by simpa using hs, fun j c hj => by
      simp only [List.getElem?_map, Option.map_eq_some_iff] at hj
      obtain ⟨c', hj', rfl⟩ := hj
      obtain ⟨u, h3, h4⟩ := hc j c' hj'
      refine ⟨u, h3, ?_⟩
      cases ho : isOl c' with
      | true => trivial
      | false => exact notOl_key ho (h4.keep k1 fun _ _ _ => id)⟩
    have k2 := keep_obj (g.new w.heap.size .obj) w.heap.size ty (fun C hh => by have := (Array.getElem?_eq_some_iff.1 (h.wf.fz _ C hh).2).1; omega) hfresh (w.alloc (.cells A ty))
    obtain ⟨g2, h3, h4, h5, h8, h9, h10, h11⟩ := h2.moveCells (m := S.mm.length + 1) cs (fun j => (A[j]?).getD undef) κ (fun j => .ob w.heap.size j) (fun j => by
        have := hm (S.mm.length + 1) ((g.new w.heap.size .obj).obj w.heap.size ty) j
        cases hk : κ j <;> rw [hk] at this <;> first | exact this | (exact ⟨this.1, by rw [alloc_size]; have := this.2; omega⟩))
      (fun j => ⟨⟨S.mm.length, Nat.lt_succ_self _, by simp [G.obj, G.new, he]⟩, by rw [alloc_size]; omega⟩) (fun j _ => by
        have := hf ((g.new w.heap.size .obj).obj w.heap.size ty) j
        refine ⟨this.tm, this.lc, fun k cs2 j' c hk => ?_, this.vl⟩
        exact absurd hk (h7 j (.obj k) j' _)) hi (fun i j hh => h7 i (.obj g.no) j ((g.new w.heap.size .obj).obj w.heap.size ty) (by rw [hh]; simp [ckey, G.obj, G.new])) (fun j c hj => by
        obtain ⟨u, h12, h13⟩ := hc j c hj
        simp only [h12, Option.getD_some]
        exact (h13.keep k1 fun _ _ _ => id).keep k2 fun _ _ _ => id)
    -- now with them
    have hi2 : (S.mm ++ [cs.map fun c => bif isOl c then PV.gone else c])[S.mm.length]? = some (cs.map fun c => bif isOl c then PV.gone else c) := by
      rw [List.getElem?_append_right (Nat.le_refl _)]; simp
    have hoa : g2.oa S.mm.length = w.heap.size := by rw [h5]; simp [G.obj, G.new, he]
    have h12 := h3.store (hE := ⟨A, by simp only [G.addr, hoa]; exact heap_alloc_new w _⟩) (b := .obj S.mm.length) (cs' := cs) (C' := A) (E := ty) (w' := w.alloc (.cells A ty)) hi2 rfl (fun _ _ => rfl) rfl (by simp only [G.addr, hoa]; exact heap_alloc_new w _) ⟨hs, fun j c hj => by
      obtain ⟨u, h13, _⟩ := hc j c hj
      have := h10 j c hj
      simp only [h13, Option.getD_some] at this
      refine ⟨u, h13, ?_⟩
      simp only [ckey, hoa]; exact this⟩
    have h13 : Rel d nt none { tm := S.tm, lc := S.lc, mm := S.mm ++ [cs], rt := [], vl := S.vl } g2 a (w.alloc (.cells A ty)) := by
      refine h12.1.congr (fun _ => rfl) (fun _ => rfl) ?_ rfl
      show S.mm ++ [cs] = (S.mm ++ [_]).set S.mm.length cs
      rw [List.set_append_right _ _ (Nat.le_refl _)]
      simp
    have h14 := h13.setT (t := t) (p := .ad (.obj S.mm.length) 0) (v := .pointer (some ⟨w.heap.size, 0, none⟩)) ht (by
      have hlt : S.mm.length < g2.no := by rw [h8]; simp [G.obj, G.new, he]
      have := RepF.ad (g := g2) S.mm.length 0 hlt
      rw [hoa] at this; exact this)
    refine ⟨g2, _, _, hr, h14, ?_⟩
    have e1 := ext_alloc (d := d) h.wf S.mm.length (.cells A ty) .obj
    refine ⟨e1.gr.trans (k2.gr.trans h11.gr), fun b k hb' hout => ?_, e1.hs, fun i hi1 hi2 => ?_, e1.sl⟩
    · obtain ⟨h15, h16⟩ := e1.own b k hb' hout
      obtain ⟨h17, _⟩ := h11.own b k h15 fun ⟨j, hj⟩ => by
        have := hm S.mm.length g j
        rw [← hj] at this
        exact this.out b hout
      exact ⟨h17, h16⟩
    · rw [h8] at hi2
      have : i = S.mm.length := by simp only [G.obj, G.new] at hi2; omega
      subst this
      rw [hoa]; exact Nat.le_refl _
end
end Go.KM
