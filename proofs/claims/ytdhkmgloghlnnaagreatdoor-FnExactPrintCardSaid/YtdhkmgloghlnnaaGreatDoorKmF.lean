/- Loads, addresses, slices of the abstract machine, whole. Conditions: none. -/
import Derived.Test.YtdhkmgloghlnnaaGreatDoorKmE
namespace Go.KM
open Go
open Fam (Dn dflt)
open Enc (cells sz mkE glob gany u8)
set_option autoImplicit false
set_option linter.unusedVariables false
set_option linter.unusedSimpArgs false
set_option linter.unusedSectionVars false
section
variable [Enc] {d nt : Nat} {e : Option Nat} {S : St} {g g' : G} {a : Act} {w w' : World} {P : Program}
theorem splice_get {cs : List PV} {o : Nat} {vs : List PV} (h : o + vs.length ≤ cs.length) (j : Nat) :
    (splice cs o vs)[j]? = if o ≤ j ∧ j < o + vs.length then vs[j - o]? else cs[j]? := by
  simp only [splice]
  by_cases h1 : j < o
  · rw [List.append_assoc, List.getElem?_append_left (by simp; omega), List.getElem?_take]
    simp [h1]; omega
  · by_cases h2 : j < o + vs.length
    · rw [List.append_assoc, List.getElem?_append_right (by simp; omega), List.getElem?_append_left (by simp; omega)]
      have : (cs.take o).length = o := by simp; omega
      simp [this, h2]; omega
    · rw [List.getElem?_append_right (by simp; omega), List.getElem?_drop]
      have : (cs.take o ++ vs).length = o + vs.length := by simp; omega
      rw [this]
      have h3 : o + vs.length + (j - (o + vs.length)) = j := by omega
      simp [h3, h2]
theorem splice_len {cs : List PV} {o : Nat} {vs : List PV} (h : o + vs.length ≤ cs.length) : (splice cs o vs).length = cs.length := by
  simp [splice]; omega
theorem splice1_len {cs : List PV} {o : Nat} {x : PV} (h : o < cs.length) : (splice cs o [x]).length = cs.length := splice_len (show o + 1 ≤ cs.length by omega)
theorem splice1_get {cs : List PV} {o : Nat} {x : PV} (h : o < cs.length) (j : Nat) : (splice cs o [x])[j]? = if j = o then some x else cs[j]? := by
  rw [splice_get (show o + 1 ≤ cs.length by omega)]
  by_cases hj : j = o
  · subst hj; simp
  · have : ¬ (o ≤ j ∧ j < o + [x].length) := by simp; omega
    rw [if_neg this, if_neg hj]
theorem ckey_mine (h : Rel d nt e S g a w) {b : Base} {cs : List PV} (hb : S.cont b = some cs) (j : Nat) : Mine d S.mm.length g w (ckey d g b j) := by
  cases b with
  | loc t => exact Nat.le_refl d
  | obj i =>
    have h1 : S.mm[i]? = some cs := hb
    exact ⟨⟨i, (List.getElem?_eq_some_iff.1 h1).1, rfl⟩, h.wf.ol i (h.mm i cs h1).1⟩
theorem setCont_cont (S : St) {b : Base} {cs cs' : List PV} (hb : S.cont b = some cs) : (S.setCont b cs').cont b = some cs' := by
  cases b with
  | loc t => show lk ((t, cs') :: S.lc) t = _; rw [lk_cons, if_pos rfl]
  | obj i =>
    have h1 : S.mm[i]? = some cs := hb
    show (S.mm.set i cs')[i]? = _
    rw [List.getElem?_set]; simp [(List.getElem?_eq_some_iff.1 h1).1]
theorem free_cell {w : World} (h : Rel d nt e S g a w) {b : Base} {cs : List PV} (hb : S.cont b = some cs) {j : Nat} (hj : ∀ c, cs[j]? = some c → isOl c = false) : Free d S g (ckey d g b j) := by
  cases b with
  | loc t =>
    refine ⟨fun _ _ _ hk => by simp [ckey] at hk, fun t' cs2 j' c hk hl hc => ?_, fun _ _ _ _ hk => by simp [ckey] at hk, fun _ _ hk => by simp [ckey] at hk⟩
    simp only [ckey, Key.lc.injEq, true_and] at hk
    obtain ⟨rfl, rfl⟩ := hk
    have : cs2 = cs := by have h2 : lk S.lc t = some cs := hb; rw [hl] at h2; simpa using h2
    subst this
    exact hj c hc
  | obj i =>
    refine ⟨fun _ _ _ hk => by simp [ckey] at hk, fun _ _ _ _ hk => by simp [ckey] at hk, fun k cs2 j' c hk hl hc => ?_, fun _ _ hk => by simp [ckey] at hk⟩
    simp only [ckey, Key.ob.injEq] at hk
    obtain ⟨h1, rfl⟩ := hk
    have h2 : S.mm[i]? = some cs := hb
    have h3 := h.wf.inj _ _ (h.mm i cs h2).1 (h.mm k cs2 hl).1 h1
    subst h3
    have : cs2 = cs := by rw [hl] at h2; simpa using h2
    subst this
    exact hj c hc
theorem Rel.cellTo (h : Rel d nt e S g a w) {b : Base} {cs : List PV} (hb : S.cont b = some cs) (hr : S.rt = []) {off : Nat} (hle : off < cs.length) {c : PV}
    (hc : ∀ C E v, w.heap[g.addr b]? = some (.cells C E (0, 0)) → C[off]? = some v → RepC g w (ckey d g b off) c v) : Rel d nt e (S.setCont b (splice cs off [c])) g a w := by
  obtain ⟨_, C, E, h1, h2⟩ := h.cont hb
  refine (h.store hb hr (fun _ _ => rfl) rfl h1 ⟨by rw [splice1_len hle]; exact h2.1, fun j c' hj => ?_⟩).1
  rw [splice1_get hle] at hj
  by_cases hj' : j = off
  · subst hj'
    simp only [if_true, Option.some.injEq] at hj
    subst hj
    have hlt : j < C.size := by rw [h2.1]; exact hle
    exact ⟨C[j], Array.getElem?_eq_getElem hlt, hc C E _ h1 (Array.getElem?_eq_getElem hlt)⟩
  · simp only [hj', if_false] at hj
    exact h2.2 j c' hj
theorem splice_splice {cs : List PV} {o : Nat} {x y : PV} (h : o < cs.length) : splice (splice cs o [x]) o [y] = splice cs o [y] := by
  apply List.ext_getElem?
  intro j
  rw [splice1_get (by rw [splice1_len h]; exact h), splice1_get h, splice1_get h]
  split <;> rfl
theorem setCont_setCont (S : St) (b : Base) (x y : List PV) (t : Nat) : (∀ c, lk ((S.setCont b x).setCont b y).lc t = c ↔ lk (S.setCont b y).lc t = c) := by
  intro c
  cases b with
  | loc u =>
    show lk ((u, y) :: (u, x) :: S.lc) t = c ↔ lk ((u, y) :: S.lc) t = c
    rw [lk_cons, lk_cons, lk_cons]
    split <;> rfl
  | obj u => rfl
theorem Rel.congr {S' : St} (h : Rel d nt e S g a w) (h1 : ∀ t, lk S'.tm t = lk S.tm t) (h2 : ∀ t, lk S'.lc t = lk S.lc t) (h3 : S'.mm = S.mm) (h4 : S'.rt = S.rt) (h0 : S'.vl = S.vl := by first | rfl | (cases b <;> rfl) | (cases bs <;> rfl)) : Rel d nt e S' g a w := by
  refine ⟨h.sz, fun t p hp => h.tm t p (by rw [← h1]; exact hp), fun t cs ht => h.lc t cs (by rw [← h2]; exact ht), by rw [h3]; exact h.mm, by rw [h3]; exact h.no, fun t r hr => ?_, h.wf, h.df, by rw [h0]; exact h.vl⟩
  rw [h4] at hr
  obtain ⟨h5, h6⟩ := h.rt t r hr
  refine ⟨h5, ?_⟩
  have hat : ∀ s, S'.at_ s = S.at_ s := by
    intro s
    cases s with
    | var u => simp only [St.at_, h1]
    | cell b o => cases b <;> simp only [St.at_, St.cont, h2, h3]
    | vo i => simp only [St.at_, h0]
  cases r with
  | pk T xs src => exact ⟨h6.1, fun s hs => ⟨(hat s).trans (h6.2 s hs).1, (h6.2 s hs).2⟩⟩
  | el s T i off =>
    obtain ⟨xs, b, len, cap, h7, h8⟩ := h6
    exact ⟨xs, b, len, cap, (hat s).trans h7, h8⟩
  | sl s T lo hi =>
    obtain ⟨xs, q8, q9, q10, q11⟩ := h6
    exact ⟨xs, (hat s).trans q8, q9, q10, q11.imp id fun ⟨q, b, len, cap, cap', q12, q13⟩ => ⟨q, b, len, cap, cap', q12, q13⟩⟩
  | mr s =>
    obtain ⟨U, es, h7, h8⟩ := h6
    exact ⟨U, es, (hat s).trans h7, h8⟩
  | dead => trivial
theorem loadOl_ran {F : Fx} {t ty off U : Nat} {b : Base} {cs : List PV} {xs : List (Dn U)} {x : Operand} {S' : St} (ht : t < nt) (h : Rel d nt e S g a w)
    (hb : S.cont b = some cs) (hc : cs[off]? = some (.ol U xs)) (hx : S.opv x = some (.ad b off)) (hagg : (isAgg ty).run P w = .ok false w) (ho : opLoadOl F t b cs off U xs S = some S')
    {op : Oper} (hop : op.op = .load ty x) : RanQ d nt e S.mm.length S' g a w t ((execOp a.eval op).run P w) := by
  obtain ⟨hk, C, E, h1, h2⟩ := h.cont hb
  obtain ⟨v, h3, h4⟩ := h2.2 off _ hc
  have h4 : RepO g w (ckey d g b off) U xs v := h4
  have hcell : w.cell? ⟨g.addr b, off, none⟩ = some v := by rw [cell_of_row w _ off C E (0, 0) h1]; exact h3
  have hr : (execOp a.eval op).run P w = .ok (.value v) w := by
    simp [execOp, hop, eval_ad h hx, Instr.loadAt, Instr.sureAddr, loadVar, hagg, hcell]
  have hle : off < cs.length := (List.getElem?_eq_some_iff.1 hc).1
  have hcont : S.noR.cont b = some cs := by cases b <;> exact hb
  have hmm : (S.noR.setCont b (splice cs off [.gone])).mm.length = S.mm.length := by rw [setCont_len]; rfl
  have h5 : Rel d nt e (S.noR.setCont b (splice cs off [.gone])) g a w := h.noR.cellTo hcont rfl hle fun _ _ _ _ _ => trivial
  have hcont' := setCont_cont S.noR (cs' := splice cs off [.gone]) hcont
  have hfree : Free d (S.noR.setCont b (splice cs off [.gone])) g (ckey d g b off) :=
    free_cell h5 hcont' fun c hc' => by
      rw [splice1_get hle, if_pos rfl] at hc'
      simp only [Option.some.injEq] at hc'
      subst hc'; rfl
  have hm := ckey_mine h5 hcont' off
  rw [hmm] at hm
  unfold opLoadOl at ho
  split at ho <;> simp only [Option.some.injEq] at ho <;> subst ho
  · have h6 : (S.setCont b (splice cs off [.gone])).noR = S.noR.setCont b (splice cs off [.gone]) := by cases b <;> rfl
    rw [h6]
    obtain ⟨g', h7, h8, h9, _⟩ := h5.move h4 hm (mine_tm (t := t) (i := 0)) hfree
    exact ⟨g', v, hr, h7.setT ht h8, h9⟩
  · have h6 : (S.setCont b (splice cs off [.fl U xs])).noR = S.noR.setCont b (splice cs off [.fl U xs]) := by cases b <;> rfl
    rw [h6]
    obtain ⟨g', h7, h8, h9, h10, h11, h12, _⟩ := h5.freeze h4 hm hfree (by cases b <;> rfl)
    have haddr : g'.addr b = g.addr b := by cases b <;> simp only [G.addr, h10, h12]
    have h13 := h7.cellTo (c := .fl U xs) (off := off) hcont' (by cases b <;> rfl) (by rw [splice1_len hle]; exact hle) fun C' E' v' h14 h15 => by
      rw [haddr, h1] at h14
      simp only [Option.some.injEq, Obj.cells.injEq] at h14
      obtain ⟨rfl, _⟩ := h14
      rw [h3] at h15
      simp only [Option.some.injEq] at h15
      subst h15
      exact h8
    rw [splice_splice hle] at h13
    have h14 : Rel d nt e (S.noR.setCont b (splice cs off [.fl U xs])) g' a w := by
      refine h13.congr (fun _ => by cases b <;> rfl) (fun u => ?_) ?_ (by cases b <;> rfl)
      · exact (((setCont_setCont S.noR b _ _ u) _).1 rfl)
      · cases b with
        | loc u => rfl
        | obj u => show S.mm.set u _ = (S.mm.set u _).set u _; rw [List.set_set]
    exact ⟨g', v, hr, h14.setT ht h8, h9⟩
  · refine ran_refQ h ht hr ⟨repO_repP h4 (by cases b <;> trivial), fun s hs => ?_⟩ fun s hs => ?_
    · simp only [Option.some.injEq] at hs
      subst hs
      refine ⟨?_, hcell⟩
      simp only [St.at_, hb]
      exact hc
    · simp only [RV.src, Option.some.injEq] at hs
      subst hs
      rfl
theorem Rel.keepC' {X : Nat → Key → Prop} {e' : Option Nat} (h : Rel d nt e S g a w) (hk : Keep X g w g' w') (hno : NoOk e' S.mm.length g'.no)
    (hX : ∀ b κ, g.own b = some κ → X b κ → (S.mm = [] ∨ κ ≠ .obj) ∧ (∀ t cs, lk S.lc t = some cs → κ ≠ .loc d t) ∧ Free d S g κ) (hr : S.rt = []) (hw : WF g' w') : Rel d nt e' S g' a w' := by
  refine ⟨h.sz, fun t p hp => ?_, fun t cs ht => ?_, fun i cs hi => ?_, hno, fun t r hr' => by rw [hr] at hr'; simp [lk] at hr', hw, h.df, fun i p hi => ?_⟩
  · obtain ⟨h1, h2⟩ := h.tm t p hp
    exact ⟨h1, h2.keep hk fun i hi b hb hx => by have := (hX _ _ hb hx).2.2.tm t p i rfl hp; simp [this] at hi⟩
  · obtain ⟨h1, C, E, h2, h3⟩ := h.lc t cs ht
    have h4 := hk.own _ _ h1 fun hx => (hX _ _ h1 hx).2.1 t cs ht rfl
    rw [hk.lb]
    exact ⟨h4.1, C, E, h4.2.trans h2, h3.keep hk fun j c hj hi b hb hx => by have := (hX _ _ hb hx).2.2.lc t cs j c rfl ht hj; simp [this] at hi⟩
  · obtain ⟨h0, h1, C, E, h2, h3⟩ := h.mm i cs hi
    have h4 := hk.own _ _ h1 fun hx => by
      rcases (hX _ _ h1 hx).1 with h5 | h5
      · rw [h5] at hi; simp at hi
      · exact h5 rfl
    rw [hk.gr.oa i h0]
    exact ⟨Nat.lt_of_lt_of_le h0 hk.gr.no, h4.1, C, E, h4.2.trans h2, h3.keep hk fun j c hj hi' b hb hx => by have := (hX _ _ hb hx).2.2.mm i cs j c rfl hi hj; simp [this] at hi'⟩
  · obtain ⟨v, h1, h2⟩ := h.vl i p hi
    exact ⟨v, by rw [hk.gr.va]; exact h1, h2.keep hk fun ho b hb hx => by have := (hX _ _ hb hx).2.2.vl i p rfl hi; simp [this] at ho⟩
theorem Rel.freezeCells {m : Nat} (h : Rel d nt e S g a w) (hrt : S.rt = []) (cs : List PV) (us : Nat → Value) (κ : Nat → Key) (hm : ∀ j, Mine d m g w (κ j)) (hf : ∀ j, j < cs.length → Free d S g (κ j)) (hi : ∀ i j, κ i = κ j → i = j)
    (hok : cs.all PV.okf = true) (hr : ∀ j c, cs[j]? = some c → RepC g w (κ j) c (us j)) :
    ∃ g', Rel d nt e S g' a w ∧ Ext d m g w g' w ∧ g'.oa = g.oa ∧ g'.no = g.no ∧ g'.lb = g.lb ∧ (∀ j c, cs[j]? = some c → RepF g' c.fz (us j)) ∧ OF g g' ∧ Keep (fun _ k => ∃ j, k = κ j) g w g' w := by
  have key : ∀ n, n ≤ cs.length → ∃ g', Rel d nt e S g' a w ∧ Ext d m g w g' w ∧ g'.oa = g.oa ∧ g'.no = g.no ∧ g'.lb = g.lb ∧ (∀ j c, cs[j]? = some c → j < n → RepF g' c.fz (us j)) ∧ (∀ j c, cs[j]? = some c → n ≤ j → RepC g' w (κ j) c (us j)) ∧ OF g g' ∧ Keep (fun _ k => ∃ j, k = κ j) g w g' w := by
    intro n
    induction n with
    | zero => exact fun _ => ⟨g, h, .refl _ _ _ _, rfl, rfl, rfl, fun _ _ _ hj => by omega, fun j c hj _ => hr j c hj, .refl g, ⟨.refl g, rfl, fun _ _ hb _ => ⟨hb, rfl⟩⟩⟩
    | succ n ih =>
      intro hn
      obtain ⟨g1, h1, h2, h3, h4, h5, h6, h7, h0, hkp⟩ := ih (by omega)
      have hc : cs[n]? = some cs[n] := List.getElem?_eq_getElem (by omega)
      have hcn := h7 n _ hc (Nat.le_refl n)
      have hokn : cs[n].okf = true := by rw [List.all_eq_true] at hok; exact hok _ (List.getElem_mem _)
      cases hol : isOl cs[n] with
      | false =>
        have hpl : cs[n].plain = true := by
          have hls : isLs cs[n] = false := by
            generalize cs[n] = c at hol
            cases c <;> first | rfl | simp [isOl] at hol
          simpa [PV.okf, hls] using hokn
        refine ⟨g1, h1, h2, h3, h4, h5, fun j c hj hjn => ?_, fun j c hj hjn => h7 j c hj (by omega), h0, hkp⟩
        by_cases hjn' : j = n
        · subst hjn'
          rw [hc] at hj
          simp only [Option.some.injEq] at hj
          subst hj
          have : (cs[j]).fz = cs[j] := by generalize cs[j] = c at hol; cases c <;> first | rfl | simp [isOl, isLs] at hol
          rw [this]
          exact (plain_key hpl).1 hcn
        · exact h6 j c hj (by omega)
      | true =>
        cases hcc : cs[n] with
        | ol T xs =>
          rw [hcc] at hcn hc
          obtain ⟨g2, h8, h9, h10, h11, h12, h13, h14, h15⟩ := h1.freeze (m := m) (show RepO g1 w (κ n) T xs (us n) from hcn) (mine_g h3 (hm n)) (free_g h3 (hf n (by omega))) hrt
          refine ⟨g2, h8, h2.trans' h10 h3 h4, h11.trans h3, h12.trans h4, h13.trans h5, fun j c hj hjn => ?_, fun j c hj hjn => ?_, h0.trans h15 h14.gr, ⟨hkp.gr.trans h14.gr, h14.lb.trans hkp.lb, fun b k hb hx => ?_⟩⟩
          · by_cases hjn' : j = n
            · subst hjn'
              rw [hc] at hj
              simp only [Option.some.injEq] at hj
              subst hj
              exact h9
            · exact (h6 j c hj (by omega)).mono h14.gr
          · exact (h7 j c hj (by omega)).keep h14 fun _ b _ hx => by have := hi _ _ hx; omega
          · obtain ⟨h16, h17⟩ := hkp.own b k hb hx
            obtain ⟨h18, h19⟩ := h14.own b k h16 fun hh => hx ⟨n, hh⟩
            exact ⟨h18, h19.trans h17⟩
        | mp U es => rw [hcc] at hokn; simp [PV.okf, PV.plain, isLs] at hokn
        | _ => rw [hcc] at hol; simp [isOl, isLs] at hol
  obtain ⟨g', h1, h2, h3, h4, h5, h6, _, h7, h8⟩ := key cs.length (Nat.le_refl _)
  exact ⟨g', h1, h2, h3, h4, h5, fun j c hj => h6 j c hj (List.getElem?_eq_some_iff.1 hj).1, h7, h8⟩
theorem fz_plain {c : PV} (hc : c.okf = true) : c.fz.plain = true := by cases c <;> first | rfl | simpa [PV.okf, PV.fz, isOl, isLs] using hc
theorem isAgg_false {T : Tab} (hT : TabOk P T) {ty : Nat} (h : (isAggK (T.K ty) || isUnk (T.K ty)) = false) : (isAgg ty).run P w = .ok false w := by
  simp only [Bool.or_eq_false_iff] at h
  cases hK : T.K ty with
  | int k => simp [isAgg, sem_underlying (hT.int _ _ hK)]
  | bool => simp [isAgg, sem_underlying (hT.bool _ hK)]
  | str => simp [isAgg, sem_underlying (hT.str _ hK)]
  | slice el => simp [isAgg, sem_underlying (hT.slice _ _ hK).1]
  | ptr el => simp [isAgg, sem_underlying (hT.ptr _ _ hK)]
  | iface => obtain ⟨ms, hms⟩ := hT.iface _ hK; simp [isAgg, sem_underlying hms]
  | map el => obtain ⟨k, v, i, hms, _⟩ := hT.map _ _ hK; simp [isAgg, sem_underlying hms]
  | struct => simp [hK, isAggK] at h
  | other =>
    obtain ⟨td, h1, h2⟩ := hT.other _ hK
    unfold isAgg
    rw [Sem.run_bind, sem_underlying h1]
    cases td <;> first | exact h2.elim | rfl
  | unk => simp [hK, isUnk] at h
theorem opr_tmp {x : Operand} {r : RV} (h : S.opr x = some r) : ∃ t, x = .tmp t ∧ lk S.rt t = some r := by
  cases x with
  | tmp t =>
    refine ⟨t, rfl, ?_⟩
    simp only [St.opr] at h
    split at h
    · simp at h
    · exact h
  | _ => simp [St.opr] at h
theorem ckey_inj (d : Nat) (g : G) (b : Base) {i j : Nat} (h : ckey d g b i = ckey d g b j) : i = j := by cases b <;> simpa [ckey] using h
theorem ckey_tm (d : Nat) (g : G) (b : Base) (i t j k : Nat) : ckey d g b i ≠ .tm d t j := by cases b <;> simp [ckey]
theorem lk_keepVs {l : List (Nat × RV)} {t : Nat} {r : RV} (h : lk (keepVs l) t = some r) : ∃ q, lk l t = some q ∧ r = keepVr q := by
  induction l with
  | nil => simp [keepVs, lk] at h
  | cons x l ih =>
    obtain ⟨u, q⟩ := x
    simp only [keepVs] at h
    rw [lk_cons] at h ⊢
    split at h
    · rename_i hu; rw [if_pos hu]; exact ⟨q, rfl, (Option.some.inj h).symm⟩
    · rename_i hu; rw [if_neg hu]; exact ih h
theorem Rel.keepV (h : Rel d nt e S g a w) {S' : St} (h' : Rel d nt e S' g' a w') (ht : S'.tm = S.tm) : Rel d nt e { S' with rt := keepVs S.rt } g' a w' := by
  refine ⟨h'.sz, h'.tm, h'.lc, h'.mm, h'.no, fun t r hr => ?_, h'.wf, h'.df, h'.vl⟩
  obtain ⟨q, h1, rfl⟩ := lk_keepVs hr
  obtain ⟨h2, h3⟩ := h.rt t q h1
  refine ⟨h2, ?_⟩
  have hat : ∀ u, St.at_ { S' with rt := keepVs S.rt } (.var u) = S.at_ (.var u) := fun u => by simp only [St.at_, ht]
  unfold keepVr
  split
  · rename_i T xs u
    obtain ⟨_, h4⟩ := h3
    obtain ⟨h5, h6⟩ := h4 _ rfl
    have h7 : lk S'.tm u = some (.ol T xs) := by rw [ht]; exact h5
    refine ⟨?_, fun s hs => by simp only [Option.some.injEq] at hs; subst hs; exact ⟨(hat u).trans h5, h6⟩⟩
    have h8 := (h'.tm u _ h7).2
    have h9 : a.tmps.getD u undef = a.tmps.getD t undef := by
      simp only [hdr] at h6
      rw [Array.getD_eq_getD_getElem? (i := u), h6]; rfl
    rw [h9] at h8
    exact repO_repP h8 trivial
  · rename_i u T i o
    obtain ⟨xs, b, len, cap, h4, h5⟩ := h3
    exact ⟨xs, b, len, cap, (hat u).trans h4, h5⟩
  · trivial
theorem loadSt_ran {F : Fx} (hT : TabOk P F.T) {t ty off : Nat} {b : Base} {cs : List PV} {x : Operand} {S' : St} (ht : t < nt) (h : Rel d nt e S g a w)
    (hb : S.cont b = some cs) (hx : S.opv x = some (.ad b off)) (ho : opLoadSt F t ty b cs off S = some S') {op : Oper} (hop : op.op = .load ty x) :
    RanQ d nt e S.mm.length S' g a w t ((execOp a.eval op).run P w) := by
  obtain ⟨hk, C, E, h1, h2⟩ := h.cont hb
  unfold opLoadSt at ho
  cases hg : (Nat.beq (part cs off (F.T.cz ty)).length (F.T.cz ty) && (part cs off (F.T.cz ty)).all PV.okc && isAggK (F.T.K ty) && Nat.blt 0 (F.T.cz ty)) with
  | false => simp only [hg, cond_false, reduceCtorEq] at ho
  | true =>
    simp only [hg, cond_true] at ho
    simp only [Bool.and_eq_true] at hg
    obtain ⟨⟨⟨h3, h4⟩, h5⟩, h6⟩ := hg
    have hl := Nat.eq_of_beq_eq_true h3
    have hz : 0 < F.T.cz ty := by
      have : 1 ≤ F.T.cz ty := by simpa [Nat.blt, Nat.ble_eq] using h6
      omega
    generalize hp : part cs off (F.T.cz ty) = p at ho hl h4
    have hle : off + p.length ≤ cs.length := by
      have : p.length = min (F.T.cz ty) (cs.length - off) := by rw [← hp]; simp [part]
      omega
    cases hK : F.T.K ty <;> simp [hK, isAggK] at h5
    obtain ⟨fs, hfs⟩ := hT.struct ty hK
    obtain ⟨i, h7, h8⟩ := hT.cz ty hz
    have hagg : (isAgg ty).run P w = .ok true w := by simp [isAgg, sem_underlying hfs]
    -- the values
    obtain ⟨vs, hv1, hv2⟩ : ∃ vs : List Value, vs.length = p.length ∧ ∀ j, j < p.length → ∃ u, vs[j]? = some u ∧ C[off + j]? = some u := by
      refine ⟨(List.range p.length).map fun j => (C[off + j]?).getD undef, by simp, fun j hj => ?_⟩
      have hlt : off + j < C.size := by rw [h2.1]; omega
      exact ⟨C[off + j], by simp [hj, Array.getElem?_eq_getElem hlt], Array.getElem?_eq_getElem hlt⟩
    have hload := run_loadCells_list (P := P) w ⟨g.addr b, off, none⟩ vs (fun j v hj => by
      have hj' := (List.getElem?_eq_some_iff.1 hj).1
      obtain ⟨u, h9, h10⟩ := hv2 j (by omega)
      rw [hj] at h9
      simp only [Option.some.injEq] at h9
      rw [cell_at h1, h10, h9])
    have hr : (execOp a.eval op).run P w = .ok (.value (.agg vs.toArray)) w := by
      simp [execOp, hop, eval_ad h hx, Instr.loadAt, Instr.sureAddr, loadVar, hagg, sizeOf, typeInfo, h7, h8, ← hl, ← hv1, hload]
    -- the cells are gone
    have hcont : S.noR.cont b = some cs := by cases b <;> exact hb
    have hlg : off + (List.replicate p.length PV.gone).length ≤ cs.length := by simpa using hle
    have hget : ∀ j, (splice cs off (List.replicate p.length PV.gone))[j]? = if off ≤ j ∧ j < off + p.length then some .gone else cs[j]? := by
      intro j
      rw [splice_get hlg]
      simp only [List.length_replicate]
      split
      · rw [List.getElem?_replicate, if_pos (by omega)]
      · rfl
    have h9 : Rel d nt e (S.noR.setCont b (splice cs off (List.replicate p.length .gone))) g a w := by
      refine (h.noR.store hcont rfl (fun _ _ => rfl) rfl h1 ⟨by rw [splice_len hlg]; exact h2.1, fun j c hj => ?_⟩).1
      rw [hget] at hj
      split at hj
      · simp only [Option.some.injEq] at hj
        subst hj
        have hlt : j < C.size := by rw [h2.1]; omega
        exact ⟨C[j], Array.getElem?_eq_getElem hlt, trivial⟩
      · exact h2.2 j c hj
    have hcont' := setCont_cont S.noR (cs' := splice cs off (List.replicate p.length .gone)) hcont
    have hmm : (S.noR.setCont b (splice cs off (List.replicate p.length .gone))).mm.length = S.mm.length := by rw [setCont_len]; rfl
    have hm : ∀ j, Mine d S.mm.length g w (ckey d g b j) := fun j => by have := ckey_mine h9 hcont' j; rw [hmm] at this; exact this
    have hpget : ∀ j c, p[j]? = some c → cs[off + j]? = some c := fun j c hj => by rw [← hp] at hj; exact (part_get hj).1
    split at ho
    · obtain ⟨g', h10, h11, h12, h13, h14, h15, _⟩ := h9.moveCells (m := S.mm.length) p (fun j => (vs[j]?).getD undef) (fun j => ckey d g b (off + j)) (fun j => .tm d t j) (fun j => hm _) (fun _ => mine_tm)
        (fun j hj => free_cell h9 hcont' fun c hc => by rw [hget, if_pos (by omega)] at hc; simp only [Option.some.injEq] at hc; subst hc; rfl)
        (fun i j hij => by have := ckey_inj d g b hij; omega) (fun i j => ckey_tm d g b _ t j 0) (fun j c hj => by
          obtain ⟨u, h16, h17⟩ := h2.2 _ c (hpget j c hj)
          have hj' := (List.getElem?_eq_some_iff.1 hj).1
          obtain ⟨u', h18, h19⟩ := hv2 j hj'
          rw [h16] at h19
          simp only [Option.some.injEq] at h19
          subst h19
          simp only [h18, Option.getD_some]
          exact h17)
      simp only [Option.some.injEq] at ho
      subst ho
      have h16 : (S.setCont b (splice cs off (List.replicate p.length .gone))).keepV = { (S.noR.setCont b (splice cs off (List.replicate p.length .gone))) with rt := keepVs S.rt } := by cases b <;> rfl
      rw [h16]
      have h10 := h.keepV h10 (by cases b <;> rfl)
      refine ⟨g', _, hr, h10.setT ht ⟨vs.toArray, rfl, by simpa using hv1, fun j c hj => ?_⟩, h11⟩
      have hj' := (List.getElem?_eq_some_iff.1 hj).1
      obtain ⟨u', h18, _⟩ := hv2 j hj'
      have := h15 j c hj
      simp only [h18, Option.getD_some] at this
      exact ⟨u', by simpa using h18, this⟩
    · cases hokf : p.all PV.okf with
      | false => simp [hokf] at ho
      | true =>
      simp only [hokf, cond_true] at ho
      obtain ⟨g', h10, h11, h12, h13, h14, h15, _⟩ := h9.freezeCells (m := S.mm.length) (by cases b <;> rfl) p (fun j => (vs[j]?).getD undef) (fun j => ckey d g b (off + j)) (fun j => hm _)
        (fun j hj => free_cell h9 hcont' fun c hc => by rw [hget, if_pos (by omega)] at hc; simp only [Option.some.injEq] at hc; subst hc; rfl)
        (fun i j hij => by have := ckey_inj d g b hij; omega) hokf (fun j c hj => by
          obtain ⟨u, h16, h17⟩ := h2.2 _ c (hpget j c hj)
          have hj' := (List.getElem?_eq_some_iff.1 hj).1
          obtain ⟨u', h18, h19⟩ := hv2 j hj'
          rw [h16] at h19
          simp only [Option.some.injEq] at h19
          subst h19
          simp only [h18, Option.getD_some]
          exact h17)
      simp only [Option.some.injEq] at ho
      subst ho
      have h16 : (S.setCont b (splice cs off (List.replicate p.length .gone))).keepV = { (S.noR.setCont b (splice cs off (List.replicate p.length .gone))) with rt := keepVs S.rt } := by cases b <;> rfl
      rw [h16]
      have h10 := h.keepV h10 (by cases b <;> rfl)
      refine ⟨g', _, hr, h10.setT ht ⟨vs.toArray, rfl, by simpa using hv1, fun j c hj => ?_⟩, h11⟩
      simp only [List.getElem?_map, Option.map_eq_some_iff] at hj
      obtain ⟨c', hj, rfl⟩ := hj
      have hj' := (List.getElem?_eq_some_iff.1 hj).1
      obtain ⟨u', h18, _⟩ := hv2 j hj'
      have := h15 j c' hj
      simp only [h18, Option.getD_some] at this
      exact ⟨u', by simpa using h18, (plain_key (fz_plain (by rw [List.all_eq_true] at hokf; exact hokf _ (List.mem_of_getElem? hj)))).2 this⟩
    · simp at ho
theorem load_ran {F : Fx} (hT : TabOk P F.T) {t ty : Nat} {x : Operand} {S' : St} (ht : t < nt) (h : Rel d nt e S g a w) (ho : opLoad F t ty x S = some S') {op : Oper} (hop : op.op = .load ty x) :
    RanQ d nt e S.mm.length S' g a w t ((execOp a.eval op).run P w) := by
  unfold opLoad at ho
  split at ho
  · -- an element of an owned list
    rename_i s U i off hx
    obtain ⟨u, rfl, hu⟩ := opr_tmp hx
    split at ho
    · rename_i V xs hs
      cases hUV : Nat.beq U V with
      | false => simp [hUV] at ho
      | true =>
        simp only [hUV, cond_true] at ho
        have := Nat.eq_of_beq_eq_true hUV
        subst this
        obtain ⟨_, xs', b, len, cap, h1, h2, h3, h4⟩ := h.rt u _ hu
        rw [hs] at h1
        simp only [Option.some.injEq, PV.ol.injEq, heq_eq_eq, true_and] at h1
        subst h1
        obtain ⟨κ, h5, h6⟩ := src_rep h hs h2
        obtain ⟨C, h7, _, h8, h9, h10, h11⟩ := repO_row h5
        have hget : xs[i]? = some (xs.getD i (dflt U)) := by rw [List.getD_eq_getElem?_getD, List.getElem?_eq_getElem h3]; rfl
        refine loadCs_ran hT ht h h7 (o := i * sz U) (off := off) (fun _ => cells_part (h11 i _ hget)) (show a.eval (.tmp u) = _ from h4) ho hop
    · simp at ho
  · simp at ho
  · split at ho
    · rename_i U y off hx
      obtain ⟨bk, o, C, h1, h2, h3⟩ := eval_fa h hx
      obtain ⟨_, h4⟩ := h.wf.fz _ _ h2
      exact loadCs_ran hT ht h h4 (o := o) (off := off) (fun _ => cells_part h3) h1 ho hop
    · rename_i b off hx
      split at ho
      · rename_i cs hb
        obtain ⟨_, C, E, h1, h2⟩ := h.cont hb
        split at ho
        · rename_i U xs hagg hp
          have hc : cs[off]? = some (.ol U xs) := by
            have : (part cs off (F.T.cz ty))[0]? = some (.ol U xs) := by rw [hp]; rfl
            simpa using (part_get this).1
          exact loadOl_ran ht h hb hc hx (isAgg_false hT hagg) ho hop
        · rename_i U es hagg hp
          have hc : cs[off]? = some (.mp U es) := by
            have : (part cs off (F.T.cz ty))[0]? = some (.mp U es) := by rw [hp]; rfl
            simpa using (part_get this).1
          obtain ⟨v, h3, _⟩ := h2.2 off _ hc
          have hcell : w.cell? ⟨g.addr b, off, none⟩ = some v := by rw [cell_of_row w _ off C E (0, 0) h1]; exact h3
          have hagg := isAgg_false hT hagg (w := w)
          have hr : (execOp a.eval op).run P w = .ok (.value v) w := by
            simp [execOp, hop, eval_ad h hx, Instr.loadAt, Instr.sureAddr, loadVar, hagg, hcell]
          simp [opLoadMp] at ho
        · cases hpl : (part cs off (F.T.cz ty)).all PV.plain with
          | true =>
            simp only [hpl, cond_true] at ho
            refine loadCs_ran hT ht h h1 (o := 0) (off := off) (fun hpl => ?_) ?_ ho hop
            · rw [Nat.zero_add]; exact repK_part h2 hpl
            · rw [Nat.zero_add]; exact eval_ad h hx
          | false =>
            simp only [hpl, cond_false] at ho
            exact loadSt_ran hT ht h hb hx ho hop
      · simp at ho
    · simp at ho
end
end Go.KM
