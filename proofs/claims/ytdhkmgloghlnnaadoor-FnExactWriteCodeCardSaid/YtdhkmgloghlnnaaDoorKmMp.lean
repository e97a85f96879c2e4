/- Maps with texts as keys. Conditions: none. -/
import Derived.Test.YtdhkmgloghlnnaaDoorKmMc
import Derived.MapKept
namespace Go.KM
open Go
open Fam (Dn dflt)
open Enc (cells sz mkE glob gany u8)
set_option autoImplicit false
set_option linter.unusedVariables false
set_option linter.unusedSimpArgs false
set_option linter.unusedSectionVars false
section
variable [Enc] {d nt : Nat} {e : Option Nat} {S : St} {g g' : G} {a : Act} {w w' : World} {P : Program}
theorem src_keyM (h : Rel d nt e S g a w) {s : Src} {U : Nat} {es : List (ByteArray × Dn U)} (hs : S.at_ s = some (.mp U es)) {v : Value} (hv : hdr g a w s = some v) : RepM g w (skey d g s) U es v := by
  cases s with
  | var u =>
    have h1 := (h.tm u _ hs).2
    simp only [hdr] at hv
    have : a.tmps.getD u undef = v := by simp [Array.getD_eq_getD_getElem?, hv]
    rw [this] at h1; exact h1
  | vo i =>
    obtain ⟨u, h1, h2⟩ := h.vl i _ hs
    have hv : g.va i = some v := hv
    rw [h1] at hv
    obtain rfl := Option.some.inj hv
    exact h2
  | cell b o =>
    simp only [St.at_] at hs
    cases hb : S.cont b with
    | none => simp [hb] at hs
    | some cs =>
      simp only [hb] at hs
      obtain ⟨_, C, E, h2, h3⟩ := h.cont hb
      obtain ⟨u, h4, h5⟩ := h3.2 o _ hs
      simp only [hdr] at hv
      rw [cell_of_row w (g.addr b) o C E (0, 0) h2, h4] at hv
      simp only [Option.some.injEq] at hv
      subst hv
      exact h5
theorem mapAt_rep (h : Rel d nt e S g a w) {m : Operand} {s : Src} {U : Nat} {es : List (ByteArray × Dn U)} (hm : S.mapAt m = some (s, ⟨U, es⟩)) : S.at_ s = some (.mp U es) ∧ hdr g a w s = some (a.eval m) := by
  unfold St.mapAt at hm
  split at hm
  · rename_i s' hr
    obtain ⟨t, rfl, hl⟩ := opr_tmp hr
    obtain ⟨_, U', es', h1, h2⟩ := h.rt t _ hl
    rw [h1] at hm
    simp only [Option.some.injEq, Prod.mk.injEq, Sigma.mk.injEq] at hm
    obtain ⟨rfl, rfl, h3⟩ := hm
    have h3 := eq_of_heq h3
    subst h3
    exact ⟨h1, h2⟩
  · simp at hm
  · split at hm
    · rename_i t
      split at hm
      · rename_i U' es' hl
        simp only [Option.some.injEq, Prod.mk.injEq, Sigma.mk.injEq] at hm
        obtain ⟨rfl, rfl, h3⟩ := hm
        have h3 := eq_of_heq h3
        subst h3
        refine ⟨hl, ?_⟩
        have h1 := (h.tm _ _ hl).1
        simp only [hdr, Act.eval, Array.getD_eq_getD_getElem?]
        rw [Array.getElem?_eq_getElem (by rw [h.sz]; exact h1)]
        rfl
      · simp at hm
    · simp at hm
theorem Rel.mapTo (h : Rel d nt e S g a w) (hr : S.rt = []) {s : Src} {U : Nat} {es es' : List (ByteArray × Dn U)} (hs : S.at_ s = some (.mp U es)) {r : Nat} (hv : hdr g a w s = some (.map (some r)))
    (hother : ∀ k, k ≠ r → w'.heap[k]? = w.heap[k]?) (hsz : w'.heap.size = w.heap.size) (hsl : Sl w w')
    (hy : RepM g w' (skey d g s) U es' (.map (some r))) : Rel d nt e (S.setAt s (.mp U es')) g a w' ∧ Ext d S.mm.length g w g w' := by
  have hrep := src_keyM h hs hv
  obtain ⟨r', ms, ck, h1, hob, hC, _⟩ := hrep
  simp only [Value.map.injEq, Option.some.injEq] at h1
  subst h1
  have hk : Keep (fun k κ => k = r ∧ κ = skey d g s) g w g w' := ⟨.refl g, rfl, fun k κ hk hx => ⟨hk, hother k fun hh => by subst hh; rw [hob] at hk; exact hx ⟨rfl, (Option.some.inj hk).symm⟩⟩⟩
  have hwf : WF g w' := by
    refine ⟨h.wf.gl, fun k κ' hk => by rw [hsz]; exact h.wf.own k κ' hk, fun k D hf => ?_, fun k b' j hk => by rw [hsz]; exact h.wf.ob k b' j hk, fun i hi => by rw [hsz]; exact h.wf.ol i hi, h.wf.inj, h.wf.oe_row fun k D E fr hk0 => by
      by_cases hkr : k = r
      · subst hkr; rw [hC] at hk0; cases hk0
      · exact ⟨_, _, (hother k hkr).trans hk0⟩⟩
    obtain ⟨h1, h2⟩ := h.wf.fz k D hf
    refine ⟨h1, ?_⟩
    rw [hother k fun hh => by subst hh; rw [hob] at h1; simp at h1]
    exact h2
  have hext : ∀ {m : Nat}, Mine d m g w (skey d g s) → Ext d m g w g w' := fun hm => ⟨.refl g, fun k κ hk' hout => ⟨hk', hother k fun hh => by subst hh; rw [hob] at hk'; simp only [Option.some.injEq] at hk'; subst hk'; exact hm.out k hout⟩, by rw [hsz]; exact Nat.le_refl _, fun i h1 h2 => by omega, hsl⟩
  cases s with
  | var t =>
    have ht := (h.tm t _ hs).1
    refine ⟨?_, hext (Nat.le_refl d)⟩
    have h4 : Rel d nt e (S.setT t .gone) g a w := h.gone ht
    have h5 := h4.keep hk (fun _ => rfl) (fun k κ hx => by obtain ⟨_, rfl⟩ := hx; exact ⟨trivial, fun _ => free_gone⟩) (.inl (by simp [St.setT, hr, dropR])) hwf
    have h6 := h5.setT' (a' := a) (t := t) (p := .mp U es') ht rfl rfl (fun _ _ => rfl) (by
      have : a.tmps.getD t undef = .map (some r) := by simp only [hdr] at hv; simp [Array.getD_eq_getD_getElem?, hv]
      rw [this]; exact hy)
    refine h6.congr (fun u => ?_) (fun _ => rfl) rfl (by simp [St.setAt, St.setT, hr, dropR])
    show lk ((t, _) :: S.tm) u = lk ((t, _) :: (t, _) :: S.tm) u
    rw [lk_cons, lk_cons, lk_cons]
    split <;> rfl
  | vo i =>
    refine ⟨?_, hext (Nat.le_refl d)⟩
    have h4 : Rel d nt e { S with vl := S.vl.set i .gone } g a w := h.vlTo hr fun _ => ⟨_, hv, trivial⟩
    have h5 := h4.keep hk (fun _ => rfl) (fun k κ hx => by obtain ⟨_, rfl⟩ := hx; exact ⟨trivial, fun _ => free_vl⟩) (.inl hr) hwf
    have h6 := h5.vlTo (p := .mp U es') (i := i) hr fun _ => ⟨_, hv, hy⟩
    refine h6.congr (fun _ => rfl) (fun _ => rfl) rfl rfl ?_
    show S.vl.set i _ = (S.vl.set i _).set i _
    rw [List.set_set]
  | cell bs o =>
    simp only [St.at_] at hs
    cases hcb : S.cont bs with
    | none => simp [hcb] at hs
    | some cs =>
      simp only [hcb] at hs
      have hle := (List.getElem?_eq_some_iff.1 hs).1
      have hm := ckey_mine h hcb o
      refine ⟨?_, hext hm⟩
      have h4 : Rel d nt e (S.setCont bs (splice cs o [.gone])) g a w := h.cellTo hcb hr hle fun _ _ _ _ _ => trivial
      have hcont' := setCont_cont S (cs' := splice cs o [.gone]) hcb
      have h5 := h4.keep hk (fun _ => rfl) (fun k κ hx => by
        obtain ⟨_, rfl⟩ := hx
        exact ⟨by cases bs <;> trivial, fun _ => free_cell h4 hcont' fun c hc' => by
          rw [splice1_get hle, if_pos rfl] at hc'
          simp only [Option.some.injEq] at hc'
          subst hc'; rfl⟩) (.inl (by cases bs <;> exact hr)) hwf
      have hne : g.addr bs ≠ r := fun hh => by
        have := (h.cont hcb).1
        rw [hh, hob] at this
        simp only [Option.some.injEq] at this
        exact bkey_cell d bs (this ▸ (by cases bs <;> trivial : (skey d g (.cell bs o)).cell))
      have h6 := h5.cellTo (c := .mp U es') (off := o) hcont' (by cases bs <;> exact hr) (by rw [splice1_len hle]; exact hle) fun C2 E2 v' h14 h15 => by
        have : v' = .map (some r) := by
          simp only [hdr] at hv
          rw [hother _ hne] at h14
          rw [cell_of_row w (g.addr bs) o C2 E2 (0, 0) h14, h15] at hv
          exact Option.some.inj hv
        subst this
        exact hy
      rw [splice_splice hle] at h6
      have hset : S.setAt (.cell bs o) (.mp U es') = S.setCont bs (splice cs o [.mp U es']) := by simp only [St.setAt, hcb]
      rw [hset]
      refine h6.congr (fun u => by cases bs <;> rfl) (fun u => ?_) ?_ (by cases bs <;> rfl)
      · exact (((setCont_setCont S bs _ _ u) _).1 rfl).symm ▸ rfl
      · cases bs with
        | loc u => rfl
        | obj u => show S.mm.set u _ = (S.mm.set u _).set u _; rw [List.set_set]
theorem makeMap_ran {F : Fx} (hT : TabOk P F.T) {t m T : Nat} {S' : St} (ht : t < nt) (h : Rel d nt e S g a w) (ho : opMakeMap F t T S = some S') {o : Oper} (hop : o.op = .makeMap T none) :
    Ran d nt e m S' g a w t ((execOp a.eval o).run P w) := by
  unfold opMakeMap at ho
  split at ho
  case h_2 => simp at ho
  rename_i el hK
  simp only [Option.some.injEq] at ho
  subst ho
  have h1 := h.alloc (.map #[] 0) (.tm d t 0) (fun _ _ hh => by simp at hh)
  have hr : (execOp a.eval o).run P w = .ok (.value (.map (some w.heap.size))) (w.alloc (.map #[] 0)) := by
    simp [execOp, hop, Instr.makeMap, Result.andThen]
  refine ⟨_, _, _, hr, h1.setT ht ?_, ext_alloc h.wf m _ _⟩
  refine ⟨w.heap.size, #[], 0, rfl, by simp [G.new], heap_alloc_new w _, rfl, fun i x hi => by simp at hi⟩
theorem keys_are {U : Nat} {es : List (ByteArray × Dn U)} {ms : Array MapEntry} (hn : ms.size = es.length) {g : G} (hk : ∀ (i : Nat) (e : ByteArray × Dn U), es[i]? = some e → ∃ m : MapEntry, ms[i]? = some m ∧ m.key = Value.string e.1 ∧ ∃ c, cells U e.2 = [c] ∧ RepF g c m.val) :
    ∀ x ∈ ms.toList, MapKept.IsKey .string x.key := by
  intro x hx
  obtain ⟨i, hi, rfl⟩ := List.mem_iff_getElem.1 hx
  have hi' : i < es.length := by rw [← hn]; simpa using hi
  obtain ⟨q, h1, h2, _⟩ := hk i _ (List.getElem?_eq_getElem hi')
  have : ms.toList[i] = q := by
    have : ms.toList[i]? = some q := by simpa using h1
    rw [List.getElem?_eq_getElem hi] at this
    exact Option.some.inj this
  rw [this, h2]
  trivial
theorem bEq_iffM {x y : ByteArray} : bEq x y = true ↔ x = y := by
  simp only [bEq, beq_iff_eq]
  constructor
  · intro h
    obtain ⟨⟨x⟩⟩ := x
    obtain ⟨⟨y⟩⟩ := y
    have h1 : ∀ l : List UInt8, ByteArray.toList ⟨⟨l⟩⟩ = l := fun l => by
      have : ∀ (b : ByteArray) (i : Nat) (r : List UInt8), ByteArray.toList.loop b i r = r.reverse ++ b.data.toList.drop i := by
        intro b i r
        induction i, r using ByteArray.toList.loop.induct b with
        | case1 i r hlt ih =>
          rw [ByteArray.toList.loop, if_pos hlt, ih]
          have hlt' : i < b.data.toList.length := by simpa using hlt
          rw [List.drop_eq_getElem_cons hlt']
          have : b.get! i = b.data.toList[i] := by
            show b.data[i]! = _
            rw [getElem!_pos b.data i (by simpa using hlt')]
            simp
          simp [this]
        | case2 i r hlt =>
          rw [ByteArray.toList.loop, if_neg hlt]
          rw [List.drop_eq_nil_of_le (by simpa using hlt)]
          simp
      rw [ByteArray.toList, this]
      simp
    rw [h1, h1] at h
    rw [h]
  · intro h; rw [h]
theorem mget_at {α : Type} : ∀ (es : List (ByteArray × α)) (k : ByteArray), (mget es k = none ∧ (∀ x ∈ es, x.1 ≠ k) ∧ ∀ x, mset es k x = es ++ [(k, x)]) ∨
    ∃ i v, mget es k = some v ∧ es[i]? = some (k, v) ∧ (∀ (j : Nat) (y : ByteArray × α), j < i → es[j]? = some y → y.1 ≠ k) ∧ ∀ x, mset es k x = es.set i (k, x) := by
  intro es
  induction es with
  | nil => intro k; exact .inl ⟨rfl, fun x hx => by simp at hx, fun x => rfl⟩
  | cons y r ih =>
    obtain ⟨k', v⟩ := y
    intro k
    cases hb : bEq k k' with
    | true =>
      have := bEq_iffM.1 hb
      subst this
      exact .inr ⟨0, v, by simp [mget, hb], rfl, fun j y hj => by omega, fun x => by simp [mset, hb]⟩
    | false =>
      have hne : k' ≠ k := fun hh => by rw [bEq_iffM.2 hh.symm] at hb; simp at hb
      rcases ih k with ⟨h1, h2, h3⟩ | ⟨i, u, h1, h2, h3, h4⟩
      · refine .inl ⟨by simp [mget, hb, h1], fun x hx => ?_, fun x => by simp [mset, hb, h3]⟩
        rcases List.mem_cons.1 hx with rfl | hx
        · exact hne
        · exact h2 x hx
      · refine .inr ⟨i + 1, u, by simp [mget, hb, h1], by simpa using h2, fun j y hj hy => ?_, fun x => by simp [mset, hb, h4]⟩
        cases j with
        | zero => simp only [List.getElem?_cons_zero, Option.some.injEq] at hy; rw [← hy]; exact hne
        | succ j => exact h3 j y (by omega) (by simpa using hy)
theorem find_first {d : TypeDesc} {k : Value} (hk : MapKept.IsKey d k) : ∀ (l : List MapEntry) (i n : Nat) {e0 : MapEntry}, (∀ x ∈ l, MapKept.IsKey d x.key) → l[n]? = some e0 → e0.key = k → (∀ (j : Nat) (y : MapEntry), j < n → l[j]? = some y → y.key ≠ k) → Instr.findNow d k l i = some (some (i + n, e0.val)) := by
  intro l
  induction l with
  | nil => intro i n e0 _ hn; simp at hn
  | cons x r ih =>
    intro i n e0 hks hn he hne
    obtain ⟨b, hb, hiff⟩ := MapKept.sameNow_of_keys hk (hks x (.head _))
    cases n with
    | zero =>
      simp only [List.getElem?_cons_zero, Option.some.injEq] at hn
      subst hn
      have : b = true := hiff.2 he.symm
      subst this
      simp [Instr.findNow, hb]
    | succ n =>
      have hf : b = false := by
        cases b with
        | false => rfl
        | true => exact absurd (hiff.1 rfl).symm (hne 0 x (Nat.succ_pos n) rfl)
      subst hf
      simp only [Instr.findNow, hb]
      rw [ih (i + 1) n (fun y hy => hks y (.tail _ hy)) (by simpa using hn) he (fun j y hj hy => hne (j + 1) y (by omega) (by simpa using hy))]
      congr 3; omega
theorem find_none {d : TypeDesc} {k : Value} (hk : MapKept.IsKey d k) (l : List MapEntry) (hks : ∀ x ∈ l, MapKept.IsKey d x.key) (hne : ∀ x ∈ l, x.key ≠ k) : Instr.findNow d k l 0 = some none := by
  rcases MapKept.findNow_spec hk l 0 hks with ⟨h1, _⟩ | ⟨j, e, _, h2, h3⟩
  · exact h1
  · exact absurd h3 (hne e (List.mem_of_getElem? h2))
theorem map_find {U : Nat} {es : List (ByteArray × Dn U)} {ms : Array MapEntry} (hn : ms.size = es.length) {g : G} (hk : ∀ (i : Nat) (e : ByteArray × Dn U), es[i]? = some e → ∃ m : MapEntry, ms[i]? = some m ∧ m.key = Value.string e.1 ∧ ∃ c, cells U e.2 = [c] ∧ RepF g c m.val) (key : ByteArray) :
    (mget es key = none ∧ Instr.findNow .string (.string key) ms.toList 0 = some none ∧ ∀ x, mset es key x = es ++ [(key, x)]) ∨
    ∃ i v m, mget es key = some v ∧ Instr.findNow .string (.string key) ms.toList 0 = some (some (i, m.val)) ∧ ms[i]? = some m ∧ m.key = .string key ∧ (∃ c, cells U v = [c] ∧ RepF g c m.val) ∧ ∀ x, mset es key x = es.set i (key, x) := by
  have hks := keys_are hn hk
  rcases mget_at es key with ⟨h1, h2, h3⟩ | ⟨i, v, h1, h2, h3, h4⟩
  · refine .inl ⟨h1, find_none (d := .string) (k := .string key) trivial _ hks fun x hx hh => ?_, h3⟩
    obtain ⟨i, hi, rfl⟩ := List.mem_iff_getElem.1 hx
    have hi' : i < es.length := by rw [← hn]; simpa using hi
    obtain ⟨q, a1, a2, _⟩ := hk i _ (List.getElem?_eq_getElem hi')
    have : ms.toList[i] = q := by
      have : ms.toList[i]? = some q := by simpa using a1
      rw [List.getElem?_eq_getElem hi] at this
      exact Option.some.inj this
    rw [this, a2] at hh
    exact h2 _ (List.getElem_mem hi') (Value.string.inj hh)
  · obtain ⟨m, a1, a2, a3⟩ := hk i _ h2
    refine .inr ⟨i, v, m, h1, ?_, a1, a2, a3, h4⟩
    have := find_first (d := .string) (k := .string key) trivial ms.toList 0 i (e0 := m) hks (by simpa using a1) a2 fun j y hj hy hh => by
      have hlt : j < es.length := by
        rw [← hn]
        have := (List.getElem?_eq_some_iff.1 hy).1
        simpa using this
      obtain ⟨q, b1, b2, _⟩ := hk j _ (List.getElem?_eq_getElem hlt)
      have : y = q := by
        have : ms.toList[j]? = some q := by simpa using b1
        rw [hy] at this
        exact Option.some.inj this
      rw [this, b2] at hh
      exact h3 j _ hj (List.getElem?_eq_getElem hlt) (Value.string.inj hh)
    simpa using this
theorem zero_run {el : Nat} {i : TypeInfo} {v : Value} (hi : P.info? el = some i) (hz : i.zero = some v) (w : World) : (zeroValue el).run P w = .ok v w := by
  simp [zeroValue, typeInfo, hi, hz, Result.andThen]
theorem lookup_ran {F : Fx} (hT : TabOk P F.T) {t m T : Nat} {x k : Operand} {ok : Bool} {S' : St} (ht : t < nt) (h : Rel d nt e S g a w) (ho : opLookup F t T x k ok S = some S') {o : Oper} (hop : o.op = .lookup T x k ok) :
    Ran d nt e m S' g a w t ((execOp a.eval o).run P w) := by
  unfold opLookup at ho
  split at ho
  case h_2 => simp at ho
  rename_i el hK
  split at ho
  case h_2 => simp at ho
  rename_i s U es hm
  split at ho
  case h_2 => simp at ho
  rename_i key z hkey hz
  split at ho
  case h_2 => simp at ho
  rename_i y hy
  split at ho
  case h_2 => simp at ho
  rename_i c hc
  cases hU : Nat.beq U el with
  | false => simp [hU] at ho
  | true =>
    simp only [hU, cond_true, Option.some.injEq] at ho
    have := Nat.eq_of_beq_eq_true hU
    subst this
    obtain ⟨hs, hv⟩ := mapAt_rep h hm
    obtain ⟨r, ms, ck, h1, h2, h3, h4, h5⟩ := src_keyM h hs hv
    obtain ⟨kt, zv, inf, k1, k2, k3, k4, k5⟩ := hT.map T U hK
    have ek := eval_s h hkey
    have hck : ∀ b, (Instr.checkKey b 10000 kt (.string key)).run P w = .ok () w := fun b => MapKept.run_checkKey k2 (d := .string) (k := .string key) trivial b 9999
    have fin : ∀ u f, (Instr.lookup T (.map (some r)) (.string key) ok).run P w = .ok (bif ok then .tuple #[u, .bool f] else u) w → RepF g c u → f = (mget es key).isSome → Ran d nt e m S' g a w t ((execOp a.eval o).run P w) := by
      intro u f hrun hrep hf
      have hx : (execOp a.eval o).run P w = .ok (.value (bif ok then .tuple #[u, .bool f] else u)) w := by simp [execOp, hop, h1, ek, hrun, Result.andThen]
      rw [← ho]
      refine ran_val h ht hx ?_
      have hpl : c.plain = true := by
        have := hT.enc.plain U ((mget es key).getD y)
        rw [hc] at this
        simpa using this
      cases ok with
      | false => exact (plain_T hpl hrep _)
      | true =>
        refine ⟨#[u, .bool f], rfl, rfl, fun i p hi => ?_⟩
        cases i with
        | zero =>
          simp only [cond_true, List.getElem?_cons_zero, Option.some.injEq] at hi
          subst hi
          have : RepV g w (Key.tm d t (offs [c, PV.b (mget es key).isSome] 0 + 0)) c u := (plain_V hpl).2 hrep
          refine ⟨u, rfl, ?_⟩
          cases c <;> first | exact this | simp [PV.plain] at hpl
        | succ i =>
          cases i with
          | zero =>
            simp only [List.getElem?_cons_succ, List.getElem?_cons_zero, Option.some.injEq] at hi
            subst hi
            exact ⟨.bool f, rfl, by rw [hf]; exact .b _⟩
          | succ i => simp at hi
    rcases map_find h4 h5 key with ⟨q1, q2, _⟩ | ⟨i, v0, m0, q1, q2, q3, q4, ⟨c', q5, q6⟩, _⟩
    · obtain ⟨inf', zv', z1, z2, z3, z4, z5, z6, z7, z8⟩ := hT.zr U z hz
      rw [k3] at z1
      obtain rfl := Option.some.inj z1
      rw [k4] at z2
      obtain rfl := Option.some.inj z2
      refine fin zv false ?_ ?_ (by rw [q1]; rfl)
      · cases ok <;> simp [Instr.lookup, run_underlying k1, MapKept.run_getObj_map h3, hck, MapKept.run_findKey k2 q2, zero_run k3 k4, Result.andThen]
      · have := (hT.enc.mkE U z y hy).2 g zv.cells 0 (z6 g)
        rw [q1] at hc
        rw [Option.getD_none] at hc
        rw [hc] at this
        obtain ⟨u, b1, b2⟩ := this 0 c rfl
        rw [k5] at b1
        simp at b1
        subst b1
        exact b2
    · refine fin m0.val true ?_ ?_ (by rw [q1]; rfl)
      · cases ok <;> simp [Instr.lookup, run_underlying k1, MapKept.run_getObj_map h3, hck, MapKept.run_findKey k2 q2, Result.andThen]
      · rw [q1, Option.getD_some, q5] at hc
        simp only [List.cons.injEq, and_true] at hc
        rw [← hc]; exact q6
theorem mapUpdate_ran {F : Fx} (hT : TabOk P F.T) {T : Nat} {x k v : Operand} {S' : St} (h : Rel d nt e S g a w) (ho : opMapUpdate F T x k v S = some S') {o : Oper} (hop : o.op = .mapUpdate T x k v) :
    RanS d nt e S.mm.length S' g a w ((execOp a.eval o).run P w) := by
  unfold opMapUpdate at ho
  split at ho
  case h_2 => simp at ho
  rename_i el hK
  split at ho
  case h_2 => simp at ho
  rename_i s U es hm
  split at ho
  case h_2 => simp at ho
  rename_i key p hkey hp
  cases hU : (Nat.beq U el && (p.plain && Nat.beq (F.T.cz el) 1)) with
  | false => simp [hU] at ho
  | true =>
    simp only [hU, cond_true] at ho
    simp only [Bool.and_eq_true] at hU
    obtain ⟨hU, hpl, hcz⟩ := hU
    have := Nat.eq_of_beq_eq_true hU
    subst this
    split at ho
    case h_2 => simp at ho
    rename_i y hy
    simp only [Option.some.injEq] at ho
    subst ho
    obtain ⟨hs, hv⟩ := mapAt_rep h hm
    obtain ⟨r, ms, ck, h1, h2, h3, h4, h5⟩ := src_keyM h hs hv
    obtain ⟨kt, zv, inf, k1, k2, k3, k4, k5⟩ := hT.map T U hK
    have ek := eval_s h hkey
    have hck : ∀ b, (Instr.checkKey b 10000 kt (.string key)).run P w = .ok () w := fun b => MapKept.run_checkKey k2 (d := .string) (k := .string key) trivial b 9999
    have hrep : RepF g p (a.eval v) := by
      have := opv_dup h hp (by cases p <;> first | rfl | (rename_i b _; cases b <;> first | rfl | simp [PV.plain] at hpl) | simp [PV.plain] at hpl) (fun _ => .obj)
      cases p <;> first | exact this | (rename_i b _; cases b <;> first | exact this | simp [PV.plain] at hpl) | simp [PV.plain] at hpl
    obtain ⟨hl, hmk⟩ := hT.enc.mkE U [p] y hy
    have hcell : ∃ c, cells U y = [c] ∧ RepF g c (a.eval v) := by
      have hlen := hT.enc.len U y
      rw [← hl] at hlen
      have h6 := hmk g #[a.eval v] 0 fun j c hj => by
        cases j with
        | zero => simp only [List.getElem?_cons_zero, Option.some.injEq] at hj; subst hj; exact ⟨_, rfl, hrep⟩
        | succ j => simp at hj
      cases hcs : cells U y with
      | nil => rw [hcs] at hlen; simp at hlen
      | cons c cs =>
        cases cs with
        | nil =>
          rw [hcs] at h6
          obtain ⟨u, b1, b2⟩ := h6 0 c rfl
          simp at b1
          subst b1
          exact ⟨c, rfl, b2⟩
        | cons c' cs => rw [hcs] at hlen; simp at hlen
    have hs0 : S.noR.at_ s = some (.mp U es) := by cases s with
      | var u => exact hs
      | vo i => exact hs
      | cell b o => cases b <;> exact hs
    have fin : ∀ (w' : World) (es' : List (ByteArray × Dn U)) (ms' : Array MapEntry) (ck' : Nat), (Instr.mapUpdate T (.map (some r)) (.string key) (a.eval v)).run P w = .ok () w' → w' = { w with heap := w.heap.setIfInBounds r (.map ms' ck') } → mset es key y = es' → ms'.size = es'.length →
        (∀ (i : Nat) (e : ByteArray × Dn U), es'[i]? = some e → ∃ m : MapEntry, ms'[i]? = some m ∧ m.key = Value.string e.1 ∧ ∃ c, cells U e.2 = [c] ∧ RepF g c m.val) → RanS d nt e S.mm.length (S.noR.setAt s (.mp U (mset es key y))) g a w ((execOp a.eval o).run P w) := by
      intro w' es' ms' ck' hrun hw hes hn hm'
      rw [hes]
      subst hw
      have hh := MapKept.heap_set (w := w) (o' := .map ms' ck') h3
      have hv0 : hdr g a w s = some (.map (some r)) := by rw [hv, h1]
      obtain ⟨j1, j2⟩ := h.noR.mapTo (w' := { w with heap := w.heap.setIfInBounds r (.map ms' ck') }) rfl hs0 hv0 (fun k hk => hh.2 k hk) (by simp) ⟨rfl, rfl, rfl⟩ ⟨r, ms', ck', rfl, h2, hh.1, hn, hm'⟩
      refine ⟨g, _, ?_, j1, j2⟩
      simp [execOp, hop, h1, ek, hrun, Result.andThen]
    have hlt : r < w.heap.size := (Array.getElem?_eq_some_iff.1 h3).1
    rcases map_find h4 h5 key with ⟨q1, q2, q3⟩ | ⟨i, v0, m0, q1, q2, q3, q4, _, q7⟩
    · refine fin _ (es ++ [(key, y)]) (ms.push { key := .string key, val := a.eval v, born := ck }) (ck + 1) ?_ rfl (q3 y) (by simp [h4]) fun i e0 hi => ?_
      · simp [Instr.mapUpdate, run_underlying k1, MapKept.run_getObj_map h3, hck, MapKept.run_findKey k2 q2, MapKept.run_setObj_map _ h3, Result.andThen]
      · by_cases hie : i < es.length
        · rw [List.getElem?_append_left hie] at hi
          obtain ⟨q, b1, b2, b3⟩ := h5 i e0 hi
          exact ⟨q, by rw [Array.getElem?_push, if_neg (by omega)]; exact b1, b2, b3⟩
        · rw [List.getElem?_append_right (by omega)] at hi
          have hi0 : i - es.length = 0 := by
            have := (List.getElem?_eq_some_iff.1 hi).1
            simp at this; omega
          rw [hi0] at hi
          simp only [List.getElem?_cons_zero, Option.some.injEq] at hi
          subst hi
          have : i = ms.size := by omega
          exact ⟨_, by rw [Array.getElem?_push, if_pos this], rfl, hcell⟩
    · refine fin _ (es.set i (key, y)) (ms.modify i fun e => { e with key := .string key, val := a.eval v }) ck ?_ rfl (q7 y) (by simp [h4]) fun j e0 hj => ?_
      · simp [Instr.mapUpdate, run_underlying k1, MapKept.run_getObj_map h3, hck, MapKept.run_findKey k2 q2, q3, q4, MapKept.run_keyThatStays (d := .string) (k := .string key) trivial, MapKept.run_setObj_map _ h3, Result.andThen]
      · rw [List.getElem?_set] at hj
        by_cases hij : i = j
        · subst hij
          rw [if_pos rfl] at hj
          split at hj
          · simp only [Option.some.injEq] at hj
            subst hj
            exact ⟨{ m0 with key := .string key, val := a.eval v }, by rw [Array.getElem?_modify, if_pos rfl, q3]; rfl, rfl, hcell⟩
          · simp at hj
        · rw [if_neg hij] at hj
          obtain ⟨q, b1, b2, b3⟩ := h5 j e0 hj
          exact ⟨q, by rw [Array.getElem?_modify, if_neg hij]; exact b1, b2, b3⟩
end
end Go.KM
