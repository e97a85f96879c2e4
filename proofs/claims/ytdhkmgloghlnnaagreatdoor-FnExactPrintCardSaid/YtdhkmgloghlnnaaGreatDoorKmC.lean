/- The operations of the abstract machine are Go's: those that leave memory alone. Conditions: none. -/
import Derived.Test.YtdhkmgloghlnnaaGreatDoorKmB
import GoSem.Dispatch
import Derived.Laws.Tables
namespace Go.KM
open Go
open Fam (Dn dflt)
open Enc (cells sz mkE glob gany u8)
set_option autoImplicit false
set_option linter.unusedVariables false
set_option linter.unusedSimpArgs false
set_option linter.unusedSectionVars false
section
variable [Enc] {d nt : Nat} {e : Option Nat} {S : St} {g g' : G} {a : Act} {w w' : World} {P : Program}
def Outer (d m : Nat) (g : G) (b : Nat) : Key → Prop
  | .obj => ∀ i, i < m → g.oa i ≠ b
  | .ob b' _ => ∀ i, i < m → g.oa i ≠ b'
  | .loc d' _ | .tm d' _ _ | .lc d' _ _ | .ar d' _ | .rt d' _ | .vo d' _ => d' < d
structure Sl (w w' : World) : Prop where
  os : w'.os = w.os
  tape : w'.tape = w.tape
  out : w'.output = w.output
theorem Sl.refl (w : World) : Sl w w := ⟨rfl, rfl, rfl⟩
theorem Sl.trans {w w1 w2 : World} (h : Sl w w1) (h' : Sl w1 w2) : Sl w w2 := ⟨h'.os.trans h.os, h'.tape.trans h.tape, h'.out.trans h.out⟩
structure Ext (d m : Nat) (g : G) (w : World) (g' : G) (w' : World) : Prop where
  gr : Grow g g'
  own : ∀ b κ, g.own b = some κ → Outer d m g b κ → g'.own b = some κ ∧ w'.heap[b]? = w.heap[b]?
  hs : w.heap.size ≤ w'.heap.size
  nw : ∀ i, g.no ≤ i → i < g'.no → w.heap.size ≤ g'.oa i
  sl : Sl w w'
theorem Ext.refl (d m : Nat) (g : G) (w : World) : Ext d m g w g w := ⟨.refl g, fun _ _ h _ => ⟨h, rfl⟩, Nat.le_refl _, fun i h1 h2 => by omega, .refl w⟩
theorem Rel.setR (h : Rel d nt e S g a w) {t : Nat} {r : RV} {v : Value} (ht : t < nt) (hv : RepR S g a w v r) (hs : ∀ s, r.src = some s → s.isVar t = false) :
    Rel d nt e (S.setR t r) g (a.put (some t) v) w := by
  have h1 : Rel d nt e (S.setT t .gone) g (a.put (some t) v) w := h.setT ht trivial
  refine ⟨h1.sz, h1.tm, h1.lc, h1.mm, h1.no, fun u q hq => ?_, h1.wf, h1.df, h1.vl⟩
  have hget : (a.put (some t) v).tmps.getD t undef = v := put_get a t v (by rw [h.sz]; exact ht)
  simp only [St.setR] at hq
  rw [lk_cons] at hq
  by_cases hu : t = u
  · subst hu
    simp only [if_true, Option.some.injEq] at hq
    subst hq
    refine ⟨ht, ?_⟩
    rw [hget]
    have hat : ∀ s, r.src = some s → (S.setR t r).at_ s = S.at_ s ∧ hdr g (a.put (some t) v) w s = hdr g a w s := by
      intro s hs'
      have h6 := hs s hs'
      cases s with
      | var u =>
        have h7 : u ≠ t := beq_false h6
        refine ⟨?_, put_ne a t v h7⟩
        simp only [St.at_, St.setR]
        rw [lk_cons, if_neg (Ne.symm h7)]
      | cell b o => exact ⟨by cases b <;> rfl, rfl⟩
      | vo i => exact ⟨rfl, rfl⟩
    cases r with
    | pk T xs src =>
      refine ⟨hv.1, fun s hs' => ?_⟩
      have h7 := hat s hs'
      rw [h7.1, h7.2]
      exact hv.2 s hs'
    | el s T i off =>
      have h7 := hat s rfl
      obtain ⟨xs, b, len, cap, h8, h9, h10⟩ := hv
      exact ⟨xs, b, len, cap, h7.1.trans h8, h7.2.trans h9, h10⟩
    | sl s T lo hi =>
      have h7 := hat s rfl
      obtain ⟨xs, q8, q9, q10, q11⟩ := hv
      exact ⟨xs, h7.1.trans q8, q9, q10, q11.imp id fun ⟨q, b, len, cap, cap', q12, q13⟩ => ⟨q, b, len, cap, cap', h7.2.trans q12, q13⟩⟩
    | mr s =>
      have h7 := hat s rfl
      obtain ⟨U, es, h8, h9⟩ := hv
      exact ⟨U, es, h7.1.trans h8, h7.2.trans h9⟩
    | dead => trivial
  · simp only [hu, if_false] at hq
    obtain ⟨h2, h3⟩ := h1.rt u q hq
    refine ⟨h2, ?_⟩
    have hat : ∀ s, (S.setR t r).at_ s = (S.setT t .gone).at_ s := by
      intro s
      cases s with
      | var u => rfl
      | cell b o => cases b <;> rfl
      | vo i => rfl
    cases q with
    | pk T xs src => exact ⟨h3.1, fun s hs' => ⟨(hat s).trans (h3.2 s hs').1, (h3.2 s hs').2⟩⟩
    | el s T i off =>
      obtain ⟨xs, b, len, cap, h8, h9, h10⟩ := h3
      exact ⟨xs, b, len, cap, (hat s).trans h8, h9, h10⟩
    | sl s T lo hi =>
      obtain ⟨xs, q8, q9, q10, q11⟩ := h3
      exact ⟨xs, (hat s).trans q8, q9, q10, q11.imp id fun ⟨q, b, len, cap, cap', q12, q13⟩ => ⟨q, b, len, cap, cap', q12, q13⟩⟩
    | mr s =>
      obtain ⟨U, es, h8, h9⟩ := h3
      exact ⟨U, es, (hat s).trans h8, h9⟩
    | dead => trivial
theorem pvOf1_rep {v : Value} {p : PV} (h : pvOf1 v = some p) (κ : Key) : RepF g p v ∧ p.plain = true := by
  unfold pvOf1 at h
  split at h <;> simp only [Option.some.injEq, reduceCtorEq] at h <;> subst h
  · exact ⟨.b _, rfl⟩
  · exact ⟨.i _ _, rfl⟩
  · exact ⟨.s _, rfl⟩
  · exact ⟨.np, rfl⟩
  · exact ⟨.nl, rfl⟩
  · exact ⟨.ifcN, rfl⟩
theorem pvOfL_rep {l : List Value} : ∀ {ps : List PV}, pvOfL l = some ps → l.length = ps.length ∧ ps.all PV.plain = true ∧ ∀ (j : Nat) (c : PV), ps[j]? = some c → ∃ u, l[j]? = some u ∧ RepF g c u := by
  induction l with
  | nil => intro ps h; simp only [pvOfL, Option.some.injEq] at h; subst h; exact ⟨rfl, rfl, by simp⟩
  | cons v l ih =>
    intro ps h
    simp only [pvOfL] at h
    split at h
    · rename_i p qs h1 h2
      simp only [Option.some.injEq] at h
      subst h
      obtain ⟨h3, h5, h4⟩ := ih h2
      refine ⟨by simp [h3], by simp only [List.all_cons, h5, (pvOf1_rep (g := g) h1 .obj).2]; rfl, fun j c hj => ?_⟩
      cases j with
      | zero => simp only [List.getElem?_cons_zero, Option.some.injEq] at hj; subst hj; exact ⟨v, rfl, (pvOf1_rep h1 .obj).1⟩
      | succ j => simp only [List.getElem?_cons_succ] at hj ⊢; exact h4 j c hj
    · simp at h
theorem pvOf_rep {v : Value} {p : PV} (h : pvOf v = some p) (κ : Nat → Key) : RepT g w κ p v ∧ p.dup = true := by
  cases v with
  | agg cs =>
    simp only [pvOf, Option.map_eq_some_iff] at h
    obtain ⟨ps, h1, rfl⟩ := h
    obtain ⟨h2, h5, h3⟩ := pvOfL_rep (g := g) h1
    refine ⟨⟨cs, rfl, by simpa using h2, fun j c hj => ?_⟩, h5⟩
    obtain ⟨u, h4, h6⟩ := h3 j c hj
    refine ⟨u, by simpa using h4, ?_⟩
    have h7 : c.plain = true := by rw [List.all_eq_true] at h5; exact h5 c (List.mem_of_getElem? hj)
    cases c <;> first | exact h6 | simp [PV.plain] at h7
  | bool x => simp only [pvOf, Option.some.injEq] at h; subst h; exact ⟨.b x, rfl⟩
  | int k n => simp only [pvOf, Option.some.injEq] at h; subst h; exact ⟨.i k n, rfl⟩
  | string s => simp only [pvOf, Option.some.injEq] at h; subst h; exact ⟨.s s, rfl⟩
  | nilIface => simp only [pvOf, Option.some.injEq] at h; subst h; exact ⟨.ifcN, rfl⟩
  | pointer x => cases x with
    | none => simp only [pvOf, Option.some.injEq] at h; subst h; exact ⟨.np, rfl⟩
    | some x => simp [pvOf] at h
  | slice x l c => 
    unfold pvOf at h
    split at h <;> simp_all
    subst h
    exact ⟨.nl, rfl⟩
  | _ => simp [pvOf] at h
theorem plain_key {p : PV} (hp : p.plain = true) {κ : Key} {v : Value} : RepC g w κ p v ↔ RepF g p v := by
  cases p <;> simp_all [PV.plain, RepC]
theorem dup_V {p : PV} (hp : p.dup = true) {κ κ' : Key} {v : Value} (h : RepV g w κ p v) : RepV g w κ' p v := by
  cases p with
  | st cs => exact h
  | fa T x off => exact h
  | ad b off => cases b <;> exact h
  | _ => simp_all [PV.dup, PV.plain, RepV, RepC]
theorem all_plain {p : List PV} (h : p.all PV.plain = true) {j : Nat} {c : PV} (hj : p[j]? = some c) : c.plain = true := by
  rw [List.all_eq_true] at h
  exact h c (List.mem_of_getElem? hj)
theorem dup_T {p : PV} (hp : p.dup = true) {κ κ' : Nat → Key} {v : Value} (h : RepT g w κ p v) : RepT g w κ' p v := by
  cases p with
  | tup vs => simp [PV.dup, PV.plain] at hp
  | st cs =>
    obtain ⟨A, h1, h2, h3⟩ := h
    refine ⟨A, h1, h2, fun j c hj => ?_⟩
    obtain ⟨u, h4, h5⟩ := h3 j c hj
    have hpl := all_plain hp hj
    exact ⟨u, h4, (plain_key hpl).2 ((plain_key hpl).1 h5)⟩
  | fa T x off => exact h
  | ad b off => cases b <;> exact h
  | _ => simp_all [PV.dup, PV.plain, RepT, RepV, RepC]
theorem opv_rep (h : Rel d nt e S g a w) {x : Operand} {p : PV} (hx : S.opv x = some p) : RepT g w (match x with | .tmp t => Key.tm d t | _ => fun _ => .obj) p (a.eval x) := by
  cases x with
  | tmp t => exact (h.tm t p hx).2
  | const v => exact (pvOf_rep (g := g) (w := w) hx fun _ => .obj).1
  | global n =>
    have hx := hx
    simp only [St.opv] at hx
    split at hx
    · rename_i T y hn
      simp only [Option.some.injEq] at hx
      subst hx
      obtain ⟨C, h1, _, h2⟩ := h.wf.gl.is n T y hn
      exact RepF.fa' (off := 0) (o := 0) h1 h2
    · simp at hx
  | func f =>
    have hx := hx
    simp only [St.opv, Option.some.injEq] at hx
    subst hx
    exact RepF.clo f [] (by simp)
theorem opv_dup (h : Rel d nt e S g a w) {x : Operand} {p : PV} (hx : S.opv x = some p) (hp : p.dup = true) (κ : Nat → Key) : RepT g w κ p (a.eval x) := dup_T hp (opv_rep h hx)
theorem opv_global_ol {n T : Nat} {xs : List (Dn T)} : S.opv (.global n) ≠ some (.ol T xs) := by
  intro h
  simp only [St.opv] at h
  split at h <;> simp at h
theorem opv_const_ol {v : Value} {T : Nat} {xs : List (Dn T)} : S.opv (.const v) ≠ some (.ol T xs) := by
  intro h
  have h := (pvOf_rep (g := ⟨fun _ => none, fun _ => none, 0, fun _ => 0, fun _ => 0, fun _ => (0, (0, 0)), fun _ => none⟩) (w := default) h fun _ => .obj).2
  simp [PV.dup, PV.plain] at h
structure Wc (p q : PV) : Prop where
  f : ∀ (g : G) (v : Go.Value), RepF g p v → RepF g q v
  a : ∀ (U : Nat) (xs : List (Dn U)), p = .fl U xs → q = .fl U xs
  b : ∀ (U : Nat) (xs : List (Dn U)), q = .fl U xs → p = .fl U xs ∨ (p = .nl ∧ xs = [])
structure EncOk : Prop where
  u8 : ∀ (T : Nat) (f : Dn T → Int), u8 T = some f → sz T = 1 ∧ ∀ x, cells T x = [.i .u8 (f x)]
  u8m : ∀ (T : Nat) (f : Dn T → Int) (n : Int), Enc.u8 T = some f → ∃ x, Enc.mkE T [.i .u8 n] = some x
  len : ∀ (T : Nat) (x : Dn T), (cells T x).length = sz T
  plain : ∀ (T : Nat) (x : Dn T), (cells T x).all PV.plain = true
  nob : ∀ (T : Nat) (x : Dn T), (cells T x).all PV.nob1 = true
  own : ∀ (T : Nat) (cs : List PV) (x : Dn T), mkE T cs = some x → ∀ (j : Nat) (c : PV), (cells T x)[j]? = some c → ∃ p, cs[j]? = some p ∧ Wc p c
  flat : ∀ (T : Nat), flatT T = true → ∀ x : Dn T, (cells T x).all PV.flat1 = true
  mkE : ∀ (T : Nat) (cs : List PV) (x : Dn T), mkE T cs = some x → cs.length = sz T ∧ ∀ (g : G) (A : Array Value) (o : Nat), CellsAt g A o cs → CellsAt g A o (cells T x)
structure TabOk (P : Program) (T : Tab) : Prop where
  int : ∀ t k, T.K t = .int k → P.underlying t = some (.int k)
  bool : ∀ t, T.K t = .bool → P.underlying t = some .bool
  str : ∀ t, T.K t = .str → P.underlying t = some .string
  slice : ∀ t el, T.K t = .slice el → P.underlying t = some (.slice el) ∧ T.cz el = sz el ∧ 0 < sz el ∧
    ∃ i z, P.info? el = some i ∧ i.size = sz el ∧ i.bytes = T.by_ el ∧ 0 < i.bytes ∧ i.zero = some z ∧ z.cells.size = sz el
  iface : ∀ t, T.K t = .iface → ∃ ms, P.underlying t = some (.interface ms)
  map : ∀ t el, T.K t = .map el → ∃ k v i, P.underlying t = some (.map k el) ∧ P.underlying k = some .string ∧ P.info? el = some i ∧ i.zero = some v ∧ v.cells = #[v]
  ptr : ∀ t el, T.K t = .ptr el → P.underlying t = some (.pointer el)
  struct : ∀ t, T.K t = .struct → ∃ fs, P.underlying t = some (.struct fs)
  other : ∀ t, T.K t = .other → ∃ dd, P.underlying t = some dd ∧ (match dd with | .struct _ | .array _ _ => False | _ => True)
  cz : ∀ t, 0 < T.cz t → ∃ i, P.info? t = some i ∧ i.size = T.cz t
  zr : ∀ t z, T.zr t = some z → ∃ i v, P.info? t = some i ∧ i.zero = some v ∧ i.size = z.length ∧ v.cells.size = z.length ∧ z.all PV.plain = true ∧ (∀ g : G, CellsAt g v.cells 0 z) ∧ T.cz t = z.length ∧ 0 < z.length
  off : ∀ t f o n, T.off t f = some (o, n) → ∃ fs fd i, P.underlying t = some (.struct fs) ∧ fs[f]? = some fd ∧ fd.offset = o ∧ P.info? fd.type = some i ∧ i.size = n ∧ 0 < n
  ft : ∀ t f U, T.ft t f = some U → ∃ fs fd, P.underlying t = some (.struct fs) ∧ fs[f]? = some fd ∧ fd.type = U
  bld : ∀ t z, T.zr t = some z → T.K t = .struct → ∃ i fs places, P.info? t = some i ∧ P.underlying t = some (.struct fs) ∧ fs.toList.mapM (fun f => (P.info? f.type).map fun i => (f.offset, i.size)) = some places ∧
    ∀ f o n, T.off t f = some (o, n) → places.toArray[f]? = some (o, n)
  enc : EncOk
def G.re (g : G) (b : Nat) (κ : Key) : G := { g with own := fun x => if x = b then some κ else g.own x }
theorem Grow.re (g : G) {b : Nat} {κ κ' : Key} (h : g.own b = some κ) : Grow g (g.re b κ') := ⟨fun _ _ h => h, Nat.le_refl _, fun _ _ => rfl, fun _ _ _ => rfl, rfl, fun _ _ => rfl⟩
def Mine (d m : Nat) (g : G) (w : World) : Key → Prop
  | .tm d' _ _ | .lc d' _ _ | .ar d' _ | .rt d' _ | .vo d' _ => d ≤ d'
  | .ob b' _ => (∃ i, i < m ∧ g.oa i = b') ∧ b' < w.heap.size
  | _ => False
theorem Mine.cell {m : Nat} {κ : Key} (h : Mine d m g w κ) : κ.cell := by cases κ <;> simp_all [Mine, Key.cell]
theorem Mine.out {m : Nat} {κ : Key} (h : Mine d m g w κ) (b : Nat) : ¬ Outer d m g b κ := by
  cases κ with
  | ob b' j => intro ho; obtain ⟨⟨i, h1, h2⟩, _⟩ := h; exact ho i h1 h2
  | _ => simp_all [Mine, Outer]
theorem Rel.rekey (h : Rel d nt e S g a w) {m b : Nat} {κ κ' : Key} (hb : g.own b = some κ) (hm : Mine d m g w κ) (hm' : Mine d m g w κ') (hf : Free d S g κ) :
    Rel d nt e S (g.re b κ') a w ∧ Ext d m g w (g.re b κ') w := by
  have hk : Keep (fun b' k => b' = b ∧ k = κ) g w (g.re b κ') w := ⟨Grow.re g hb, rfl, fun b' k hb' hx => ⟨by
    have hne : b' ≠ b := fun e => by subst e; rw [hb] at hb'; exact hx ⟨rfl, (Option.some.inj hb').symm⟩
    simp only [G.re, if_neg hne]; exact hb', rfl⟩⟩
  refine ⟨h.keep hk (fun _ => rfl) (fun b' k hx => ?_) (.inr fun b' k hb' hc => ⟨rfl, ?_⟩) ⟨gl_mono (Grow.re g hb) h.wf.gl, fun b' k hb' => ?_, fun b' C hf => ?_, fun b' b2 j hb' => ?_, h.wf.ol, h.wf.inj, fun i hi => by
    obtain ⟨k0, k1⟩ := h.wf.oe i hi
    have hne : g.oa i ≠ b := fun hh => by rw [hh, hb] at k0; cases k0; exact hm.elim
    exact ⟨by show (if g.oa i = b then some κ' else g.own (g.oa i)) = _; rw [if_neg hne]; exact k0, k1⟩⟩,
    ⟨Grow.re g hb, fun b' k hb' ho => ⟨?_, rfl⟩, Nat.le_refl _, fun i h1 h2 => by simp only [G.re] at h2; omega, .refl w⟩⟩
  · obtain ⟨_, rfl⟩ := hx
    exact ⟨hm.cell, fun _ => hf⟩
  · by_cases hx : b' = b
    · exact ⟨κ', by simp [G.re, hx], hm'.cell⟩
    · exact ⟨k, by simp only [G.re, if_neg hx]; exact hb', hc⟩
  · by_cases hx : b' = b
    · subst hx; exact h.wf.own _ _ hb
    · simp only [G.re, if_neg hx] at hb'; exact h.wf.own _ _ hb'
  · have h1 := h.wf.fz b' C hf
    by_cases hx : b' = b
    · subst hx; rw [hb] at h1; simp at h1
    · refine ⟨?_, h1.2⟩; simp only [G.re, if_neg hx]; exact h1.1
  · by_cases hx : b' = b
    · subst hx
      simp only [G.re, if_true, Option.some.injEq] at hb'
      subst hb'
      exact hm'.2
    · simp only [G.re, if_neg hx] at hb'; exact h.wf.ob _ _ _ hb'
  · by_cases hx : b' = b
    · subst hx
      rw [hb] at hb'
      simp only [Option.some.injEq] at hb'
      subst hb'
      exact absurd ho (hm.out b')
    · simp only [G.re, if_neg hx]; exact hb'
theorem RepO.nil {κ κ' : Key} {T : Nat} {xs : List (Dn T)} {v : Value} (h : RepO g w κ T xs v) (hv : v.ownBlock = none) : RepO g w κ' T xs v := by
  obtain ⟨vs, h1, _, h3⟩ := h
  exact ⟨vs, h1, fun b hb => by rw [hv] at hb; simp at hb, h3⟩
theorem Rel.move (h : Rel d nt e S g a w) {m : Nat} {κ κ' : Key} {T : Nat} {xs : List (Dn T)} {v : Value} (ho : RepO g w κ T xs v) (hm : Mine d m g w κ) (hm' : Mine d m g w κ') (hf : Free d S g κ) :
    ∃ g', Rel d nt e S g' a w ∧ RepO g' w κ' T xs v ∧ Ext d m g w g' w ∧ g'.oa = g.oa ∧ g'.no = g.no ∧ g'.lb = g.lb ∧ Keep (fun _ k => k = κ) g w g' w := by
  cases hv : v.ownBlock with
  | none => exact ⟨g, h, ho.nil hv, .refl _ _ _ _, rfl, rfl, rfl, ⟨.refl g, rfl, fun _ _ hb _ => ⟨hb, rfl⟩⟩⟩
  | some b =>
    obtain ⟨vs, h1, h2, h3⟩ := ho
    have hb := h2 b hv
    obtain ⟨h4, h5⟩ := h.rekey hb hm hm' hf
    refine ⟨g.re b κ', h4, ⟨vs, h1, fun b' hb' => by rw [hv] at hb'; simp only [Option.some.injEq] at hb'; subst hb'; simp [G.re], fun i x hi => (h3 i x hi).mono h5.gr⟩, h5, rfl, rfl, rfl, ⟨h5.gr, rfl, fun b' k hb' hx => ⟨?_, rfl⟩⟩⟩
    have hne : b' ≠ b := fun e => by subst e; rw [hb] at hb'; exact hx (Option.some.inj hb').symm
    simp only [G.re, if_neg hne]; exact hb'
theorem Rel.moveM (h : Rel d nt e S g a w) {m : Nat} {κ κ' : Key} {U : Nat} {es : List (ByteArray × Dn U)} {v : Value} (ho : RepM g w κ U es v) (hm : Mine d m g w κ) (hm' : Mine d m g w κ') (hf : Free d S g κ) :
    ∃ g', Rel d nt e S g' a w ∧ RepM g' w κ' U es v ∧ Ext d m g w g' w ∧ g'.oa = g.oa ∧ g'.no = g.no ∧ g'.lb = g.lb ∧ Keep (fun _ k => k = κ) g w g' w := by
  obtain ⟨b, ms, ck, h1, hb, h3, h6, h7⟩ := ho
  obtain ⟨h4, h5⟩ := h.rekey hb hm hm' hf
  refine ⟨g.re b κ', h4, ⟨b, ms, ck, h1, by simp [G.re], h3, h6, fun i x hi => let ⟨q, a1, a2, c, a3, a4⟩ := h7 i x hi; ⟨q, a1, a2, c, a3, a4.mono h5.gr⟩⟩, h5, rfl, rfl, rfl, ⟨h5.gr, rfl, fun b' k hb' hx => ⟨?_, rfl⟩⟩⟩
  have hne : b' ≠ b := fun e => by subst e; rw [hb] at hb'; exact hx (Option.some.inj hb').symm
  simp only [G.re, if_neg hne]; exact hb'
theorem Rel.moveC (h : Rel d nt e S g a w) {m : Nat} {κ κ' : Key} {c : PV} {v : Value} (hc : isOl c = true) (ho : RepC g w κ c v) (hm : Mine d m g w κ) (hm' : Mine d m g w κ') (hf : Free d S g κ) :
    ∃ g', Rel d nt e S g' a w ∧ RepC g' w κ' c v ∧ Ext d m g w g' w ∧ g'.oa = g.oa ∧ g'.no = g.no ∧ g'.lb = g.lb ∧ Keep (fun _ k => k = κ) g w g' w := by
  cases c with
  | ol T xs => exact h.move (show RepO g w κ T xs v from ho) hm hm' hf
  | mp U es => exact h.moveM (show RepM g w κ U es v from ho) hm hm' hf
  | _ => simp [isOl, isLs] at hc
theorem mine_g {m : Nat} {κ : Key} (ho : g'.oa = g.oa) (h : Mine d m g w κ) : Mine d m g' w κ := by cases κ <;> first | exact h | (simp only [Mine] at h ⊢; rw [ho]; exact h)
theorem free_g {κ : Key} (ho : g'.oa = g.oa) (h : Free d S g κ) : Free d S g' κ := ⟨h.tm, h.lc, fun k cs j c hk => h.mm k cs j c (by rw [← ho]; exact hk), h.vl⟩
theorem Ext.trans' {m : Nat} {g1 g2 : G} {w1 w2 : World} (h : Ext d m g w g1 w1) (h' : Ext d m g1 w1 g2 w2) (ho : g1.oa = g.oa) (hn : g1.no = g.no) : Ext d m g w g2 w2 := by
  refine ⟨h.gr.trans h'.gr, fun b κ hb hout => ?_, Nat.le_trans h.hs h'.hs, fun i h1 h2 => Nat.le_trans h.hs (h'.nw i (by rw [hn]; exact h1) h2), h.sl.trans h'.sl⟩
  obtain ⟨h1, h2⟩ := h.own b κ hb hout
  have h3 : Outer d m g1 b κ := by cases κ <;> first | exact hout | (simp only [Outer] at hout ⊢; rw [ho]; exact hout)
  obtain ⟨h4, h5⟩ := h'.own b κ h1 h3
  exact ⟨h4, h5.trans h2⟩
theorem notOl_key {c : PV} (hc : isOl c = false) {κ κ' : Key} {v : Value} (h : RepC g w κ c v) : RepC g w κ' c v := by cases c <;> first | exact h | simp [isOl, isLs] at hc
theorem Rel.moveCells {m : Nat} (h : Rel d nt e S g a w) (cs : List PV) (us : Nat → Value) (κ κ' : Nat → Key) (hm : ∀ j, Mine d m g w (κ j)) (hm' : ∀ j, Mine d m g w (κ' j))
    (hf : ∀ j, j < cs.length → Free d S g (κ j)) (hi : ∀ i j, κ i = κ j → i = j) (hd : ∀ i j, κ i ≠ κ' j) (hr : ∀ j c, cs[j]? = some c → RepC g w (κ j) c (us j)) :
    ∃ g', Rel d nt e S g' a w ∧ Ext d m g w g' w ∧ g'.oa = g.oa ∧ g'.no = g.no ∧ g'.lb = g.lb ∧ (∀ j c, cs[j]? = some c → RepC g' w (κ' j) c (us j)) ∧ Keep (fun _ k => ∃ j, k = κ j) g w g' w := by
  have key : ∀ n, n ≤ cs.length → ∃ g', Rel d nt e S g' a w ∧ Ext d m g w g' w ∧ g'.oa = g.oa ∧ g'.no = g.no ∧ g'.lb = g.lb ∧ (∀ j c, cs[j]? = some c → j < n → RepC g' w (κ' j) c (us j)) ∧ (∀ j c, cs[j]? = some c → n ≤ j → RepC g' w (κ j) c (us j)) ∧ Keep (fun _ k => ∃ j, k = κ j) g w g' w := by
    intro n
    induction n with
    | zero => exact fun _ => ⟨g, h, .refl _ _ _ _, rfl, rfl, rfl, fun _ _ _ hj => by omega, fun j c hj _ => hr j c hj, ⟨.refl g, rfl, fun _ _ hb _ => ⟨hb, rfl⟩⟩⟩
    | succ n ih =>
      intro hn
      obtain ⟨g1, h1, h2, h3, h4, h5, h6, h7, h7k⟩ := ih (by omega)
      have hc : cs[n]? = some cs[n] := List.getElem?_eq_getElem (by omega)
      have hcn := h7 n _ hc (Nat.le_refl n)
      cases hol : isOl cs[n] with
      | false =>
        refine ⟨g1, h1, h2, h3, h4, h5, fun j c hj hjn => ?_, fun j c hj hjn => h7 j c hj (by omega), h7k⟩
        by_cases hjn' : j = n
        · subst hjn'
          rw [hc] at hj
          simp only [Option.some.injEq] at hj
          subst hj
          exact notOl_key hol hcn
        · exact h6 j c hj (by omega)
      | true =>
        · obtain ⟨g2, h8, h9, h10, h11, h12, h13, h14⟩ := h1.moveC (m := m) (κ' := κ' n) hol hcn (mine_g h3 (hm n)) (mine_g h3 (hm' n)) (free_g h3 (hf n (by omega)))
          refine ⟨g2, h8, h2.trans' h10 h3 h4, h11.trans h3, h12.trans h4, h13.trans h5, fun j c hj hjn => ?_, fun j c hj hjn => ?_, ⟨h7k.gr.trans h14.gr, h14.lb.trans h7k.lb, fun b k hb hx => ?_⟩⟩
          · by_cases hjn' : j = n
            · subst hjn'
              rw [hc] at hj
              simp only [Option.some.injEq] at hj
              subst hj
              exact h9
            · exact (h6 j c hj (by omega)).keep h14 fun _ b _ hx => hd n j hx.symm
          · exact (h7 j c hj (by omega)).keep h14 fun _ b _ hx => by have := hi _ _ hx; omega
          · obtain ⟨h15, h16⟩ := h7k.own b k hb hx
            obtain ⟨h17, h18⟩ := h14.own b k h15 fun hh => hx ⟨n, hh⟩
            exact ⟨h17, h18.trans h16⟩
  obtain ⟨g', h1, h2, h3, h4, h5, h6, _, h7⟩ := key cs.length (Nat.le_refl _)
  exact ⟨g', h1, h2, h3, h4, h5, fun j c hj => h6 j c hj (List.getElem?_eq_some_iff.1 hj).1, h7⟩
def Ran (d nt : Nat) (e : Option Nat) (m : Nat) (S' : St) (g : G) (a : Act) (w : World) (t : Nat) (r : Result Next) : Prop :=
  ∃ g' v w', r = .ok (.value v) w' ∧ Rel d nt e S' g' (a.put (some t) v) w' ∧ Ext d m g w g' w'
theorem ran_val (h : Rel d nt e S g a w) {m t : Nat} (ht : t < nt) {p : PV} {v : Value} {r : Result Next} (hr : r = .ok (.value v) w) (hv : RepT g w (Key.tm d t) p v) :
    Ran d nt e m (S.setT t p) g a w t r := ⟨g, v, w, hr, h.setT ht hv, .refl _ _ _ _⟩
def RanQ (d nt : Nat) (e : Option Nat) (m : Nat) (S' : St) (g : G) (a : Act) (w : World) (t : Nat) (r : Result Next) : Prop :=
  ∃ g' v, r = .ok (.value v) w ∧ Rel d nt e S' g' (a.put (some t) v) w ∧ Ext d m g w g' w
theorem RanQ.ran {m t : Nat} {S' : St} {r : Result Next} (h : RanQ d nt e m S' g a w t r) : Ran d nt e m S' g a w t r := let ⟨g', v, h1, h2, h3⟩ := h; ⟨g', v, w, h1, h2, h3⟩
theorem ran_valQ (h : Rel d nt e S g a w) {m t : Nat} (ht : t < nt) {p : PV} {v : Value} {r : Result Next} (hr : r = .ok (.value v) w) (hv : RepT g w (Key.tm d t) p v) :
    RanQ d nt e m (S.setT t p) g a w t r := ⟨g, v, hr, h.setT ht hv, .refl _ _ _ _⟩
theorem ran_refQ (h : Rel d nt e S g a w) {m t : Nat} (ht : t < nt) {q : RV} {v : Value} {r : Result Next} (hr : r = .ok (.value v) w) (hv : RepR S g a w v q) (hs : ∀ s, q.src = some s → s.isVar t = false) :
    RanQ d nt e m (S.setR t q) g a w t r := ⟨g, v, hr, h.setR ht hv hs, .refl _ _ _ _⟩
theorem mine_tm {m t i : Nat} : Mine d m g w (.tm d t i) := Nat.le_refl d
theorem free_gone {t i : Nat} : Free d (S.setT t .gone) g (.tm d t i) := by
  refine ⟨fun t' p j hk hl => ?_, fun _ _ _ _ hk => by simp at hk, fun _ _ _ _ hk => by simp at hk, fun _ _ hk => by simp at hk⟩
  simp only [Key.tm.injEq, true_and] at hk
  obtain ⟨rfl, rfl⟩ := hk
  have hl : lk ((t, PV.gone) :: S.tm) t = some p := hl
  rw [lk_cons, if_pos rfl] at hl
  simp only [Option.some.injEq] at hl
  subst hl
  exact olT_gone _
def usE (p : PV) (v : Value) (j : Nat) : Value :=
  match p with
  | .st _ => (v.cells[j]?).getD undef
  | _ => v
def usT : List PV → List Value → Nat → Value
  | p :: r, u :: us, n => if n < p.ks.length then usE p u n else usT r us (n - p.ks.length)
  | _, _, _ => undef
theorem usT_at : ∀ (vs : List PV) (us : List Value) (i : Nat) {p : PV} {u : Value} {j : Nat} {c : PV}, vs[i]? = some p → us[i]? = some u → p.ks[j]? = some c → usT vs us (offs vs i + j) = usE p u j := by
  intro vs
  induction vs with
  | nil => intro us i p u j c hi; simp at hi
  | cons q r ih =>
    intro us i p u j c hi hu hj
    cases us with
    | nil => simp at hu
    | cons x us =>
      have hlt := (List.getElem?_eq_some_iff.1 hj).1
      cases i with
      | zero =>
        simp only [List.getElem?_cons_zero, Option.some.injEq] at hi hu
        subst hi hu
        rw [show offs (q :: r) 0 = 0 from rfl, Nat.zero_add]
        simp only [usT]
        rw [if_pos hlt]
      | succ i =>
        simp only [List.getElem?_cons_succ] at hi hu
        rw [show offs (q :: r) (i + 1) = q.ks.length + offs r i from rfl]
        simp only [usT]
        rw [if_neg (by omega), show q.ks.length + offs r i + j - q.ks.length = offs r i + j by omega]
        exact ih us i hi hu hj
theorem repV_move {p : PV} {v : Value} {κ κ' : Key} (hl : p.isLoc = false ∨ g'.lb = g.lb) (h : RepV g w κ p v) (hG : Grow g g') (hc : isOl p = true → RepC g' w' κ' p v) : RepV g' w' κ' p v := by
  cases p with
  | st cs => obtain ⟨A, h1, h2, h3⟩ := h; exact ⟨A, h1, h2, h3.mono hG⟩
  | ad b off => cases b with
    | loc t =>
      rcases hl with hl | hl
      · simp [PV.isLoc] at hl
      · simp only [RepV] at h ⊢; rw [hl]; exact h
    | obj i => exact RepF.mono hG h
  | ol T xs => exact hc rfl
  | mp U es => exact hc rfl
  | gone => trivial
  | _ => exact RepF.mono hG h
theorem repE_split {p : PV} {v : Value} {κ : Nat → Key} (h : RepE g w κ p v) : (∀ j c, p.ks[j]? = some c → RepC g w (κ j) c (usE p v j)) ∧
    ∀ (g' : G) (w' : World) (κ' : Nat → Key), Grow g g' → (p.isLoc = false ∨ g'.lb = g.lb) → (∀ j c, p.ks[j]? = some c → RepC g' w' (κ' j) c (usE p v j)) → RepE g' w' κ' p v := by
  have single : (∀ cs, p ≠ .st cs) → RepV g w (κ 0) p v → p.ks = [bif isOl p then p else .gone] → (∀ j, usE p v j = v) → (∀ (g' : G) (w' : World) (κ' : Nat → Key), RepV g' w' (κ' 0) p v → RepE g' w' κ' p v) →
      (∀ j c, p.ks[j]? = some c → RepC g w (κ j) c (usE p v j)) ∧
      ∀ (g' : G) (w' : World) (κ' : Nat → Key), Grow g g' → (p.isLoc = false ∨ g'.lb = g.lb) → (∀ j c, p.ks[j]? = some c → RepC g' w' (κ' j) c (usE p v j)) → RepE g' w' κ' p v := by
    intro _ hv hk hu hT
    refine ⟨fun j c hj => ?_, fun g' w' κ' hG hno hc => hT g' w' κ' (repV_move hno hv hG fun ho => ?_)⟩
    · rw [hk] at hj
      rw [hu]
      cases j with
      | zero =>
        simp only [List.getElem?_cons_zero, Option.some.injEq] at hj
        subst hj
        cases ho : isOl p with
        | false => trivial
        | true => cases p <;> simp [isOl, isLs] at ho <;> exact hv
      | succ j => simp at hj
    · have := hc 0 p (by rw [hk, ho]; rfl)
      rw [hu] at this
      exact this
  cases p with
  | st cs =>
    obtain ⟨A, h1, h2, h3⟩ := h
    subst h1
    refine ⟨fun j c hj => ?_, fun g' w' κ' hG _ hc => ⟨A, rfl, h2, fun j c hj => ?_⟩⟩
    · obtain ⟨u, h4, h5⟩ := h3 j c hj
      simp only [usE, Value.cells, h4, Option.getD_some]; exact h5
    · obtain ⟨u, h4, _⟩ := h3 j c hj
      have := hc j c hj
      simp only [usE, Value.cells, h4, Option.getD_some] at this
      exact ⟨u, h4, this⟩
  | ad b off => exact single (by simp) h rfl (fun _ => rfl) (fun _ _ _ h => h)
  | _ => exact single (by simp) h rfl (fun _ => rfl) (fun _ _ _ h => h)
def locs : PV → Bool
  | .ad (.loc _) _ => true
  | .tup vs => vs.any fun p => p.isLoc
  | _ => false
theorem repT_split' {p : PV} {v : Value} {κ : Nat → Key} (h : RepT g w κ p v) : ∃ us : Nat → Value, (∀ j c, p.keys[j]? = some c → RepC g w (κ j) c (us j)) ∧
    ∀ (g' : G) (w' : World) (κ' : Nat → Key), Grow g g' → (locs p = false ∨ g'.lb = g.lb) → (∀ j c, p.keys[j]? = some c → RepC g' w' (κ' j) c (us j)) → RepT g' w' κ' p v := by
  have single : (∀ vs, p ≠ .tup vs) → RepE g w κ p v → p.keys = p.ks → (∀ (g' : G) (w' : World) (κ' : Nat → Key), RepE g' w' κ' p v → RepT g' w' κ' p v) → (locs p = false → p.isLoc = false) →
      ∃ us : Nat → Value, (∀ j c, p.keys[j]? = some c → RepC g w (κ j) c (us j)) ∧
      ∀ (g' : G) (w' : World) (κ' : Nat → Key), Grow g g' → (locs p = false ∨ g'.lb = g.lb) → (∀ j c, p.keys[j]? = some c → RepC g' w' (κ' j) c (us j)) → RepT g' w' κ' p v := by
    intro _ hv hk hT hl
    obtain ⟨h1, h2⟩ := repE_split hv
    exact ⟨usE p v, by rw [hk]; exact h1, fun g' w' κ' hG hno hc => hT g' w' κ' (h2 g' w' κ' hG (hno.imp hl id) (by rw [hk] at hc; exact hc))⟩
  cases p with
  | tup vs =>
    obtain ⟨A, h1, h2, h3⟩ := h
    refine ⟨usT vs A.toList, fun n c hn => ?_, fun g' w' κ' hG hno hc => ⟨A, h1, h2, fun i p hi => ?_⟩⟩
    · obtain ⟨i, p, j, h4, h5, rfl⟩ := keys_of vs n hn
      obtain ⟨u, h6, h7⟩ := h3 i p h4
      rw [usT_at vs A.toList i h4 (by rw [Array.getElem?_toList]; exact h6) h5]
      exact (repE_split h7).1 j c h5
    · obtain ⟨u, h6, h7⟩ := h3 i p hi
      refine ⟨u, h6, (repE_split h7).2 g' w' _ hG ?_ fun j c hj => ?_⟩
      · rcases hno with hno | hno
        · left
          have hno : (vs.any fun p => p.isLoc) = false := hno
          rw [List.any_eq_false] at hno
          have := hno p (List.mem_of_getElem? hi)
          simpa using this
        · exact .inr hno
      · have := hc (offs vs i + j) c (keys_at vs i hi hj)
        rw [usT_at vs A.toList i hi (by rw [Array.getElem?_toList]; exact h6) hj] at this
        exact this
  | st cs => exact single (by simp) h rfl (fun _ _ _ h => h) (fun _ => rfl)
  | ad b off => exact single (by simp) h rfl (fun _ _ _ h => h) (by cases b <;> simp [locs, PV.isLoc])
  | _ => exact single (by simp) h rfl (fun _ _ _ h => h) (fun _ => rfl)
theorem ran_takeQ (h : Rel d nt e S g a w) {m t u : Nat} (ht : t < nt) (htu : u ≠ t) {p : PV} (hp : p.okM = true) (hu : lk S.tm u = some p) {r : Result Next} (hr : r = .ok (.value (a.tmps.getD u undef)) w) :
    RanQ d nt e m ((S.setT u .gone).setT t p) g a w t r := by
  obtain ⟨h1, h2⟩ := h.tm u _ hu
  have hg := h.gone h1
  obtain ⟨us, h3, h4⟩ := repT_split' h2
  obtain ⟨g', h6, h7, h8, h9, h10, h11, h12⟩ := hg.moveCells (m := m) p.keys us (fun j => .tm d u j) (fun j => .tm d t j) (fun _ => mine_tm) (fun _ => mine_tm) (fun _ _ => free_gone)
    (fun i j hij => by simpa using hij) (fun i j hij => by simp only [Key.tm.injEq, true_and] at hij; exact htu hij.1) h3
  exact ⟨g', _, hr, h6.setT ht (h4 g' w _ h12.gr (.inr h10) h11), h7⟩
theorem ran_take (h : Rel d nt e S g a w) {m t u : Nat} (ht : t < nt) (htu : u ≠ t) {p : PV} (hp : p.okM = true) (hu : lk S.tm u = some p) {r : Result Next} (hr : r = .ok (.value (a.tmps.getD u undef)) w) :
    Ran d nt e m ((S.setT u .gone).setT t p) g a w t r := (ran_takeQ h ht htu hp hu hr).ran
theorem opMove_ran {F : Fx} {t m : Nat} {x : Operand} {S' : St} (ht : t < nt) (h : Rel d nt e S g a w) (ho : opMove F t x S = some S') {o : Oper} (hop : o.op = .move x) :
    RanQ d nt e m S' g a w t ((execOp a.eval o).run P w) := by
  have hr : (execOp a.eval o).run P w = .ok (.value (a.eval x)) w := by simp [execOp, hop]
  unfold opMove at ho
  split at ho
  · rename_i p hx
    cases hd : p.dup with
    | true =>
      simp only [hd, cond_true, Option.some.injEq] at ho
      subst ho
      exact ran_valQ h ht hr (opv_dup h hx hd _)
    | false =>
      simp only [hd, cond_false] at ho
      split at ho
      · rename_i u _
        cases hg : (p.okM && !Nat.beq u t) with
        | false => simp [hg] at ho
        | true =>
          simp only [hg, cond_true, Option.some.injEq] at ho
          subst ho
          simp only [Bool.and_eq_true, Bool.not_eq_true'] at hg
          exact ran_takeQ h ht (beq_false hg.2) hg.1 hx hr
      · rename_i u _
        split at ho
        case h_3 => simp at ho
        case h_2 =>
          rename_i U es
          cases hb : Nat.beq u t with
          | true => simp [hb] at ho
          | false =>
            simp only [hb, cond_false, Option.some.injEq] at ho
            subst ho
            have h1 := h.tm u _ hx
            refine ran_refQ h ht hr ⟨U, es, hx, ?_⟩ fun s hs => ?_
            · simp only [hdr, Act.eval, Array.getD_eq_getD_getElem?]
              rw [Array.getElem?_eq_getElem (by rw [h.sz]; exact h1.1)]
              rfl
            · simp only [RV.src, Option.some.injEq] at hs
              subst hs
              exact hb
        rename_i T xs
        cases hb : Nat.beq u t with
        | true => simp [hb] at ho
        | false =>
          simp only [hb, cond_false, Option.some.injEq] at ho
          subst ho
          have h1 := h.tm u _ hx
          refine ran_refQ h ht hr ⟨?_, fun s hs => ?_⟩ fun s hs => ?_
          · obtain ⟨vs, h2, h3, h4⟩ := h1.2
            rcases h2.2 with ⟨h5, h6⟩ | ⟨b, cap, cur, h5, _, h7, h8, _, h9, h10⟩
            · exact .inl ⟨List.eq_nil_of_length_eq_zero h6, h5⟩
            · refine .inr ⟨b, 0, cap, cur, T, h5, h8, h7, ⟨_, h3 b (by show Value.ownBlock (a.tmps.getD u undef) = _; rw [h5]; rfl), trivial⟩, fun i x hi j c hj => ?_⟩
              obtain ⟨y, h11, h12⟩ := h4 i x hi j c hj
              refine ⟨y, ?_, h12⟩
              rw [← h10] at h11
              simp only [List.getElem?_toArray, List.getElem?_take] at h11
              split at h11
              · simpa using h11
              · simp at h11
          · simp only [Option.some.injEq] at hs
            subst hs
            refine ⟨hx, ?_⟩
            simp only [hdr, Act.eval, Array.getD_eq_getD_getElem?]
            rw [Array.getElem?_eq_getElem (by rw [h.sz]; exact h1.1)]
            rfl
          · simp only [RV.src, Option.some.injEq] at hs
            subst hs
            exact hb
      · simp at ho
  · simp at ho
theorem opAssign_ran {t m : Nat} {x : Operand} {S' : St} (ht : t < nt) (h : Rel d nt e S g a w) (ho : opAssign t x S = some S') {o : Oper} (hop : o.op = .assign x) :
    Ran d nt e m S' g a w t ((execOp a.eval o).run P w) := by
  have hr : (execOp a.eval o).run P w = .ok (.value (a.eval x)) w := by simp [execOp, hop]
  unfold opAssign at ho
  split at ho
  · rename_i p hx
    cases hd : p.dup with
    | true =>
      simp only [hd, cond_true, Option.some.injEq] at ho
      subst ho
      exact ran_val h ht hr (opv_dup h hx hd _)
    | false =>
      simp only [hd, cond_false] at ho
      split at ho
      · rename_i u
        cases hg : (p.okM && !Nat.beq u t) with
        | false => simp [hg] at ho
        | true =>
          simp only [hg, cond_true, Option.some.injEq] at ho
          subst ho
          simp only [Bool.and_eq_true, Bool.not_eq_true'] at hg
          exact ran_take h ht (beq_false hg.2) hg.1 hx hr
      · simp at ho
  · simp at ho
theorem eval_b (h : Rel d nt e S g a w) {x : Operand} {c : Bool} (hx : S.opv x = some (.b c)) : a.eval x = .bool c := by
  have := opv_dup h hx rfl (fun _ => .obj)
  generalize a.eval x = v at this ⊢
  cases this; rfl
theorem eval_i (h : Rel d nt e S g a w) {x : Operand} {k : IntKind} {n : Int} (hx : S.opv x = some (.i k n)) : a.eval x = .int k n := by
  have := opv_dup h hx rfl (fun _ => .obj)
  generalize a.eval x = v at this ⊢
  cases this; rfl
theorem eval_s (h : Rel d nt e S g a w) {x : Operand} {c : ByteArray} (hx : S.opv x = some (.s c)) : a.eval x = .string c := by
  have := opv_dup h hx rfl (fun _ => .obj)
  generalize a.eval x = v at this ⊢
  cases this; rfl
theorem opPick_ran {t m : Nat} {c x y : Operand} {S' : St} (ht : t < nt) (h : Rel d nt e S g a w) (ho : opPick t c x y S = some S') {o : Oper} (hop : o.op = .pick c x y) :
    Ran d nt e m S' g a w t ((execOp a.eval o).run P w) := by
  unfold opPick at ho
  split at ho
  · rename_i hc
    have hr : (execOp a.eval o).run P w = .ok (.value (a.eval x)) w := by simp [execOp, hop, eval_b h hc, asBool]
    split at ho
    · rename_i p hx
      cases hd : p.dup with
      | false => simp [hd] at ho
      | true =>
        simp only [hd, cond_true, Option.some.injEq] at ho
        subst ho
        exact ran_val h ht hr (opv_dup h hx hd _)
    · simp at ho
  · rename_i hc
    have hr : (execOp a.eval o).run P w = .ok (.value (a.eval y)) w := by simp [execOp, hop, eval_b h hc, asBool]
    split at ho
    · rename_i p hx
      cases hd : p.dup with
      | false => simp [hd] at ho
      | true =>
        simp only [hd, cond_true, Option.some.injEq] at ho
        subst ho
        exact ran_val h ht hr (opv_dup h hx hd _)
    · simp at ho
  · simp at ho
theorem int?_eval (h : Rel d nt e S g a w) {x : Operand} {n : Int} (hx : S.int? x = some n) : ∃ k, a.eval x = .int k n := by
  unfold St.int? at hx
  split at hx
  · rename_i k m hm
    simp only [Option.some.injEq] at hx
    subst hx
    exact ⟨k, eval_i h hm⟩
  · simp at hx
theorem kEq_eq {k k' : IntKind} (h : kEq k k' = true) : k = k' := by cases k <;> cases k' <;> simp_all [kEq]
theorem binI_run {op : BinOp} {k : IntKind} {x y : Int} {c : Bool} {p : PV} (h : binI op k x y = some (c, p)) (hc : c = true) (hop : op ≠ .shl ∧ op ≠ .shr) (t : Nat) :
    ∃ v, (Go.binOp op t (.int k x) (.int k y)).run P w = .ok v w ∧ RepF g p v ∧ p.plain = true := by
  subst hc
  cases op <;> simp only [binI, Option.some.injEq, Prod.mk.injEq, reduceCtorEq, bne_iff_ne, ne_eq, true_and] at h
  · subst h; exact ⟨.int k (k.wrap (x + y)), by simp [Go.binOp, Op.intArith], .i _ _, rfl⟩
  · subst h; exact ⟨.int k (k.wrap (x - y)), by simp [Go.binOp, Op.intArith], .i _ _, rfl⟩
  · subst h; exact ⟨.int k (k.wrap (x * y)), by simp [Go.binOp, Op.intArith], .i _ _, rfl⟩
  · obtain ⟨h1, rfl⟩ := h; exact ⟨.int k (k.wrap (x.tdiv y)), by simp [Go.binOp, Op.intDiv, h1], .i _ _, rfl⟩
  · obtain ⟨h1, rfl⟩ := h; exact ⟨.int k (x.tmod y), by simp [Go.binOp, Op.intDiv, h1], .i _ _, rfl⟩
  · subst h; exact ⟨.int k (bitAnd k x y), by simp [Go.binOp, Op.intBits, bitAnd], .i _ _, rfl⟩
  · subst h; exact ⟨.int k (bitOr k x y), by simp [Go.binOp, Op.intBits, bitOr], .i _ _, rfl⟩
  · subst h; exact ⟨.int k (bitXor k x y), by simp [Go.binOp, Op.intBits, bitXor], .i _ _, rfl⟩
  · subst h; exact ⟨.bool (x == y), by simp [Go.binOp, Op.intCmp], .b _, rfl⟩
  · subst h; exact ⟨.bool (x != y), by simp [Go.binOp, Op.intCmp], .b _, rfl⟩
  · subst h; exact ⟨_, by simp [Go.binOp, Op.intCmp], .b _, rfl⟩
  · subst h; exact ⟨_, by simp [Go.binOp, Op.intCmp], .b _, rfl⟩
  · subst h; exact ⟨_, by simp [Go.binOp, Op.intCmp], .b _, rfl⟩
  · subst h; exact ⟨_, by simp [Go.binOp, Op.intCmp], .b _, rfl⟩
theorem binS_run {op : BinOp} {x y : ByteArray} {c : Bool} {p : PV} (h : binS op x y = some (c, p)) (hc : c = true) (t : Nat) :
    ∃ v, (Go.binOp op t (.string x) (.string y)).run P w = .ok v w ∧ RepF g p v ∧ p.plain = true := by
  subst hc
  cases op <;> simp only [binS, Option.some.injEq, Prod.mk.injEq, reduceCtorEq, decide_eq_true_eq, true_and] at h
  · obtain ⟨h1, rfl⟩ := h
    have h2 : ¬ ((x.size + y.size : Nat) : Int) > IntKind.i64.max := by
      have : IntKind.i64.max = 9223372036854775807 := by decide
      rw [this]; omega
    exact ⟨.string (x ++ y), by simp only [Go.binOp, Op.stringOp, Sem.run_ite, if_neg h2]; rfl, .s _, rfl⟩
  · subst h; exact ⟨.bool (bEq x y), by simp [Go.binOp, Op.stringOp, bEq], .b _, rfl⟩
  · subst h; exact ⟨.bool (!bEq x y), by simp [Go.binOp, Op.stringOp, bEq], .b _, rfl⟩
  · subst h; exact ⟨.bool (bLt x y), by simp [Go.binOp, Op.stringOp, bLt], .b _, rfl⟩
  · subst h; exact ⟨.bool (bLt x y || bEq x y), by simp [Go.binOp, Op.stringOp, bEq, bLt], .b _, rfl⟩
  · subst h; exact ⟨.bool (!(bLt x y || bEq x y)), by simp [Go.binOp, Op.stringOp, bEq, bLt], .b _, rfl⟩
  · subst h; exact ⟨.bool (!bLt x y), by simp [Go.binOp, Op.stringOp, bEq, bLt], .b _, rfl⟩
end
end Go.KM
