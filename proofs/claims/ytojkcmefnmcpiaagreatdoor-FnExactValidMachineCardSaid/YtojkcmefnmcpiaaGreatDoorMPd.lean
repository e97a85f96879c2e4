/- Plain laws: both say the same of a code. Conditions: none. -/
import Derived.Test.YtojkcmefnmcpiaaGreatDoorMPc
namespace Go.KM.M1
open Go Go.KM
open Go.KM.Fam (Dn dflt)
open Go.KM.Enc (cells sz mkE glob gany u8)
set_option autoImplicit false
set_option linter.unusedVariables false
set_option linter.unusedSimpArgs false
set_option maxRecDepth 100000
section
variable {c : TCode} {f : TFn}
theorem mget_mset {α : Type} : ∀ (es : List (ByteArray × α)) (k w : ByteArray) (x : α), mget (mset es k x) w = if w = k then some x else mget es w := by
 intro es
 induction es with
 | nil =>
  intro k w x
  simp only [mset, mget, bEq_dec]
  by_cases h : w = k <;> simp [h]
 | cons e es ih =>
  obtain ⟨k', v⟩ := e
  intro k w x
  simp only [mset, bEq_dec]
  by_cases hk : k = k'
  ·subst hk
   simp only [decide_true, cond_true, mget, bEq_dec]
   by_cases h : w = k <;> simp [h]
  ·simp only [decide_eq_false hk, cond_false, mget, bEq_dec, ih]
   by_cases h : w = k'
   ·subst h
    have : ¬ w = k := fun h => hk h.symm
    simp [this]
   ·simp [h]
def Seen (c : TCode) (k : Nat) (seen : List (ByteArray × Bool)) : Prop := ∀ w, (mget seen w).getD false = !((c.gFns.take k).all fun g => decide (g.gName ≠ w))
theorem Seen.next {k : Nat} {seen : List (ByteArray × Bool)} (h : Seen c k seen) (hk : k < c.gFns.length) : Seen c (k + 1) (mset seen c.gFns[k].gName true) := fun w => by
 rw [mget_mset, List.take_add_one, List.getElem?_eq_getElem hk, Option.toList_some, List.all_append]
 by_cases hw : w = c.gFns[k].gName
 ·subst hw; simp
 ·have hw' : ¬ c.gFns[k].gName = w := fun h => hw h.symm
  rw [if_neg hw, h w]; simp [hw']
theorem heads (hl : c.gFns.length ≤ 1048576) (hp : ∀ f ∈ c.gFns, f.gParams.length ≤ 1048576) : ∀ (m k : Nat) (seen : List (ByteArray × Bool)), k + m = c.gFns.length → Seen c k seen →
  (∃ k' : Nat, R.l7Plain.l116 k c = some (2, ((k' : Int), 0)) ∧ I.checkParts.l244 seen c.gFns c.gFns.length k c = some (2, ((k' : Int), 0))) ∨
  (R.l7Plain.l116 k c = R.l7Plain.l244 0 c ∧ I.checkParts.l244 seen c.gFns c.gFns.length k c = I.checkParts.l500 c.gFns c.gFns.length 0 c ∧ ∀ j (hj : j < c.gFns.length), k ≤ j → headB c.gFns[j] = true ∧ newName c j c.gFns[j] = true) := by
 intro m
 induction m with
 | zero =>
  intro k seen hk hs
  rw [R.l7Plain.l116_eq, bif_f (ge_dec (by omega)), I.checkParts.l244_eq, bif_f (ge_dec (by omega))]
  exact .inr ⟨rfl, rfl, fun j hj h => by omega⟩
 | succ m ih =>
  intro k seen hk hs
  have hkl : k < c.gFns.length := by omega
  have hpk := hp _ (List.getElem_mem hkl)
  rw [R.l7Plain.l116_eq, bif_t (lt_dec hkl), R_fnok hl hkl hpk, Option.bind_some, I.checkParts.l244_eq, bif_t (lt_dec hkl), bif_t (inB_nat hkl), Int.toNat_natCast, getD_lt hkl, I_head hpk, Option.bind_some, hs c.gFns[k].gName, wi_succ (by omega)]
  change (∃ k' : Nat, (bif !(headB c.gFns[k] && newName c k c.gFns[k]) then some (2, (((k : Nat) : Int), (0 : Int))) else R.l7Plain.l116 ((k + 1 : Nat) : Int) c) = some (2, ((k' : Int), 0)) ∧
   (bif !headB c.gFns[k] then some (2, (((k : Nat) : Int), (0 : Int))) else bif !newName c k c.gFns[k] then some (2, (((k : Nat) : Int), (0 : Int))) else I.checkParts.l244 (mset seen c.gFns[k].gName true) c.gFns c.gFns.length ((k + 1 : Nat) : Int) c) = some (2, ((k' : Int), 0))) ∨
   ((bif !(headB c.gFns[k] && newName c k c.gFns[k]) then some (2, (((k : Nat) : Int), (0 : Int))) else R.l7Plain.l116 ((k + 1 : Nat) : Int) c) = R.l7Plain.l244 0 c ∧
   (bif !headB c.gFns[k] then some (2, (((k : Nat) : Int), (0 : Int))) else bif !newName c k c.gFns[k] then some (2, (((k : Nat) : Int), (0 : Int))) else I.checkParts.l244 (mset seen c.gFns[k].gName true) c.gFns c.gFns.length ((k + 1 : Nat) : Int) c) = I.checkParts.l500 c.gFns c.gFns.length 0 c ∧ _)
  cases hh : headB c.gFns[k] with
  | false => exact .inl ⟨k, rfl, rfl⟩
  | true =>
   cases hn : newName c k c.gFns[k] with
   | false => exact .inl ⟨k, rfl, rfl⟩
   | true =>
    rcases ih (k + 1) _ (by omega) (hs.next hkl) with ⟨k', h1, h2⟩ | ⟨h1, h2, h3⟩
    ·exact .inl ⟨k', h1, h2⟩
    ·refine .inr ⟨h1, h2, fun j hj h => ?_⟩
     by_cases hjk : j = k
     ·subst hjk; exact ⟨hh, hn⟩
     ·exact h3 j hj (by omega)
theorem inss (hl : c.gFns.length ≤ 60) {k : Nat} (hk : k < c.gFns.length) (hf : HeadOk c.gFns[k]) : ∀ (m i : Nat), i + m = c.gFns[k].gIns.length →
  (∃ i' : Nat, R.l7Plain.l15652 k i c = some (3, ((k : Int), (i' : Int))) ∧ I.checkParts.l128204 k c.gFns c.gFns.length k c.gFns[k].gIns c.gFns[k].gIns.length i c c.gFns[k] = some (3, ((k : Int), (i' : Int)))) ∨
  (R.l7Plain.l15652 k i c = R.l7Plain.l244 ((k + 1 : Nat) : Int) c ∧ I.checkParts.l128204 k c.gFns c.gFns.length k c.gFns[k].gIns c.gFns[k].gIns.length i c c.gFns[k] = I.checkParts.l500 c.gFns c.gFns.length ((k + 1 : Nat) : Int) c ∧
   ∀ j (hj : j < c.gFns[k].gIns.length), i ≤ j → insOk c c.gFns[k] c.gFns[k].gIns[j] = true) := by
 have h5 := hf.i5
 have hs0 := hf.s0
 have hs2 := hf.s200
 intro m
 induction m with
 | zero =>
  intro i hi
  rw [R.l7Plain.l15652_eq, bif_t (inB_nat hk), Int.toNat_natCast, getD_lt hk, bif_f (ge_dec (by omega)), I.checkParts.l128204_eq, bif_f (ge_dec (by omega)), wi_succ (by omega)]
  exact .inr ⟨rfl, rfl, fun j hj h => by omega⟩
 | succ m ih =>
  intro i hi
  have hil : i < c.gFns[k].gIns.length := by omega
  rw [R.l7Plain.l15652_eq, bif_t (inB_nat hk), Int.toNat_natCast, getD_lt hk, bif_t (lt_dec hil), bif_t (inB_nat hk), bif_t (inB_nat hk), bif_t (inB_nat hil), Int.toNat_natCast, getD_lt hil, R_ins (by omega) (by omega), Option.bind_some,
   I.checkParts.l128204_eq, bif_t (lt_dec hil), bif_t (inB_nat hil), Int.toNat_natCast, getD_lt hil, I_ins (by omega) (by omega), Option.bind_some, wi_succ (by omega)]
  cases hh : insOk c c.gFns[k] c.gFns[k].gIns[i] with
  | false => exact .inl ⟨i, rfl, rfl⟩
  | true =>
   rw [Bool.not_true, cond_false, cond_false]
   rcases ih (i + 1) (by omega) with ⟨i', h1, h2⟩ | ⟨h1, h2, h3⟩
   ·exact .inl ⟨i', h1, h2⟩
   ·refine .inr ⟨h1, h2, fun j hj h => ?_⟩
    by_cases hji : j = i
    ·subst hji; exact hh
    ·exact h3 j hj (by omega)
theorem mains (hl : c.gFns.length ≤ 1048576) : ∀ (m k : Nat), k + m = c.gFns.length →
  (∃ r : Nat, R.l7Main.l52 k c = some (r : Int) ∧ (∃ h : r < c.gFns.length, c.gFns[r].gName = ⟨#[109, 97, 105, 110]⟩) ∧ I.checkParts.l1012 c.gFns c.gFns.length k = some (0, (0, 0))) ∨ (R.l7Main.l52 k c = some (-1) ∧ I.checkParts.l1012 c.gFns c.gFns.length k = some (4, (0, 0))) := by
 intro m
 induction m with
 | zero =>
  intro k hk
  rw [R.l7Main.l52_eq, bif_f (ge_dec (by omega)), I.checkParts.l1012_eq, bif_f (ge_dec (by omega))]
  exact .inr ⟨rfl, rfl⟩
 | succ m ih =>
  intro k hk
  have hkl : k < c.gFns.length := by omega
  have ih := ih (k + 1) (by omega)
  rw [R.l7Main.l52_eq, bif_t (lt_dec hkl), bif_t (inB_nat hkl), Int.toNat_natCast, getD_lt hkl, bif_t (inB_nat hkl), bif_t (inB_nat hkl), wi_succ (by omega),
   I.checkParts.l1012_eq, bif_t (lt_dec hkl), bif_t (inB_nat hkl), Int.toNat_natCast, getD_lt hkl, wi_succ (by omega), bEq_dec]
  by_cases h1 : c.gFns[k].gName = ⟨#[109, 97, 105, 110]⟩
  ·rw [bif_t (decide_eq_true h1), bif_t (decide_eq_true h1)]
   by_cases h2 : (c.gFns[k].gParams.length : Int) = 0
   ·rw [bif_t (beq_iff_eq.2 h2), bif_t (beq_iff_eq.2 h2)]
    by_cases h3 : c.gFns[k].gResult = 2
    ·rw [bif_t (beq_iff_eq.2 h3), bif_t (beq_iff_eq.2 h3)]
     exact .inl ⟨k, rfl, ⟨hkl, h1⟩, rfl⟩
    ·rw [bif_f (beq_eq_false_iff_ne.2 h3), bif_f (beq_eq_false_iff_ne.2 h3)]; exact ih
   ·rw [bif_f (beq_eq_false_iff_ne.2 h2), bif_f (beq_eq_false_iff_ne.2 h2)]; exact ih
  ·rw [bif_f (decide_eq_false h1), bif_f (decide_eq_false h1)]; exact ih
theorem plains (hl : c.gFns.length ≤ 1048576) (hp : ∀ f ∈ c.gFns, f.gParams.length ≤ 1048576) :
  (∃ r : Int × (Int × Int), r.1 ≠ 0 ∧ R.l7Plain c = some r ∧ I.checkParts c = some r) ∨ (R.l7Plain c = some (0, (0, 0)) ∧ I.checkParts c = some (0, (0, 0)) ∧ CodeOk c ∧ (∀ k (hk : k < c.gFns.length), FnOk c c.gFns[k]) ∧ (∀ k (hk : k < c.gFns.length), newName c k c.gFns[k] = true) ∧ ∃ r : Nat, R.l7Main c = some (r : Int) ∧ ∃ h : r < c.gFns.length, c.gFns[r].gName = ⟨#[109, 97, 105, 110]⟩) := by
 rw [R.l7Plain_eq, R_in, Option.bind_some, I.checkParts_eq]
 by_cases h1 : c.gFns.length < 1
 ·rw [bif_t (by simp; omega), bif_t (decide_eq_true (by omega))]
  exact .inl ⟨_, by simp, rfl, rfl⟩
 ·by_cases h60 : c.gFns.length > 60
  ·rw [bif_t (by simp; omega), bif_f (b := decide ((c.gFns.length : Int) < 1)) (decide_eq_false (by omega)), bif_t (decide_eq_true (by omega))]
   exact .inl ⟨_, by simp, rfl, rfl⟩
  ·rw [bif_f (by simp; omega), bif_f (b := decide ((c.gFns.length : Int) < 1)) (decide_eq_false (by omega)), bif_f (b := decide ((c.gFns.length : Int) > 60)) (decide_eq_false (by omega))]
   rcases heads hl hp c.gFns.length 0 [] (by omega) (fun w => by simp [mget]) with ⟨k', a1, a2⟩ | ⟨a1, a2, a3⟩
   ·exact .inl ⟨_, by simp, a1, a2⟩
   ·have a1 : R.l7Plain.l116 0 c = _ := a1
    have a2 : I.checkParts.l244 [] c.gFns c.gFns.length 0 c = _ := a2
    rw [a1, a2]
    have hH : ∀ k (hk : k < c.gFns.length), HeadOk c.gFns[k] := fun k hk => headB_ok (a3 k hk (by omega)).1
    have hC : CodeOk c := ⟨by omega, fun f hf => by
     obtain ⟨k, hk, rfl⟩ := List.mem_iff_getElem.1 hf
     exact hH k hk⟩
    have loop : ∀ (m k : Nat), k + m = c.gFns.length →
      (∃ r : Int × (Int × Int), r.1 ≠ 0 ∧ R.l7Plain.l244 k c = some r ∧ I.checkParts.l500 c.gFns c.gFns.length k c = some r) ∨
      (R.l7Plain.l244 k c = some (0, (0, 0)) ∧ I.checkParts.l500 c.gFns c.gFns.length k c = some (0, (0, 0)) ∧ (∀ j (hj : j < c.gFns.length), k ≤ j → ∀ x ∈ c.gFns[j].gIns, insOk c c.gFns[j] x = true) ∧ ∃ r : Nat, R.l7Main c = some (r : Int) ∧ ∃ h : r < c.gFns.length, c.gFns[r].gName = ⟨#[109, 97, 105, 110]⟩) := by
     intro m
     induction m with
     | zero =>
      intro k hk
      have b9 : R.l7Main c = R.l7Main.l52 0 c := R.l7Main_eq c
      rw [R.l7Plain.l244_eq, bif_f (ge_dec (by omega)), I.checkParts.l500_eq, bif_f (ge_dec (by omega)), b9]
      rcases mains hl c.gFns.length 0 (by omega) with ⟨r, b1, b0, b2⟩ | ⟨b1, b2⟩
      ·have b1 : R.l7Main.l52 0 c = _ := b1
       have b2 : I.checkParts.l1012 c.gFns c.gFns.length 0 = _ := b2
       rw [b1, b2, Option.bind_some, bif_f (decide_eq_false (by omega))]
       exact .inr ⟨rfl, rfl, fun j hj h => by omega, r, rfl, b0⟩
      ·have b1 : R.l7Main.l52 0 c = _ := b1
       have b2 : I.checkParts.l1012 c.gFns c.gFns.length 0 = _ := b2
       rw [b1, b2, Option.bind_some, bif_t (decide_eq_true (by omega))]
       exact .inl ⟨_, by simp, rfl, rfl⟩
     | succ m ih =>
      intro k hk
      have hkl : k < c.gFns.length := by omega
      rw [R.l7Plain.l244_eq, bif_t (lt_dec hkl), I.checkParts.l500_eq, bif_t (lt_dec hkl), bif_t (inB_nat hkl), Int.toNat_natCast, getD_lt hkl]
      rcases inss (by omega) hkl (hH k hkl) _ 0 (Nat.zero_add _) with ⟨i', b1, b2⟩ | ⟨b1, b2, b3⟩
      ·exact .inl ⟨_, by simp, b1, b2⟩
      ·have b1 : R.l7Plain.l15652 k 0 c = _ := b1
       have b2 : I.checkParts.l128204 k c.gFns c.gFns.length k c.gFns[k].gIns c.gFns[k].gIns.length 0 c c.gFns[k] = _ := b2
       rw [b1, b2]
       rcases ih (k + 1) (by omega) with ⟨r, d1, d2, d3⟩ | ⟨d1, d2, d3, d4⟩
       ·exact .inl ⟨r, d1, d2, d3⟩
       ·refine .inr ⟨d1, d2, fun j hj h x hx => ?_, d4⟩
        by_cases hjk : j = k
        ·subst hjk
         obtain ⟨q, hq, rfl⟩ := List.mem_iff_getElem.1 hx
         exact b3 q hq (by omega)
        ·exact d3 j hj (by omega) x hx
    rcases loop c.gFns.length 0 (by omega) with ⟨r, d1, d2, d3⟩ | ⟨d1, d2, d3, d4⟩
    ·exact .inl ⟨r, d1, d2, d3⟩
    ·exact .inr ⟨d1, d2, hC, fun k hk => ⟨hH k hk, d3 k hk (by omega)⟩, fun k hk => (a3 k hk (by omega)).2, d4⟩
theorem scans (hc : CodeOk c) {fn : Nat} (hfn : fn < c.gFns.length) (hf : FnOk c c.gFns[fn]) {Y : List TShape} (hY : Wfs c.gFns[fn].gIns.length (sy c c.gFns[fn]).S Y) : ∀ (m a : Nat), a + m = c.gFns[fn].gIns.length →
  (∃ a' : Nat, R.CheckCode.l31308 fn Y a c = some (5, ((fn : Int), (a' : Int))) ∧ I.shapes.l32756 Y (-1) Y Y.length a c c.gFns[fn] = some (some Y, (a' : Int))) ∨
  (R.CheckCode.l31308 fn Y a c = R.CheckCode.l244 ((fn + 1 : Nat) : Int) c ∧ I.shapes.l32756 Y (-1) Y Y.length a c c.gFns[fn] = some (some Y, -1) ∧ ∀ i, a ≤ i → i < c.gFns[fn].gIns.length → (Y.getD i none_).gState ≠ 0 → (bhF c c.gFns[fn] i (Y.getD i none_)).gState = 1) := by
 have hn := hc.n
 have h5 := hf.h.i5
 have hYl := hY.1
 obtain ⟨hS1, hS2⟩ := slotsN hf
 intro m
 induction m with
 | zero =>
  intro a ha
  rw [R.CheckCode.l31308_eq, bif_f (ge_dec (by omega)), I.shapes.l32756_eq, bif_f (ge_dec (by omega)), wi_succ (by omega)]
  exact .inr ⟨rfl, rfl, fun i hi hn => by omega⟩
 | succ m ih =>
  intro a ha
  have hal : a < Y.length := by omega
  have haf : a < c.gFns[fn].gIns.length := by omega
  have ih := ih (a + 1) (by omega)
  have hz : Y.getD a TShape.z = Y.getD a none_ := rfl
  rw [R.CheckCode.l31308_eq, bif_t (lt_dec hal), bif_t (inB_nat hal), I.shapes.l32756_eq, bif_t (lt_dec hal), bif_t (inB_nat hal), wi_succ (by omega), bif_t (inB_nat hfn), bif_t (inB_nat hal)]
  simp only [Int.toNat_natCast, hz]
  rw [getD_lt hfn]
  have hw := hY.2 a haf
  have more : ((Y.getD a none_).gState ≠ 0 → (bhF c c.gFns[fn] a (Y.getD a none_)).gState = 1) →
    (∃ a' : Nat, R.CheckCode.l31308 fn Y ((a + 1 : Nat) : Int) c = some (5, ((fn : Int), (a' : Int))) ∧ I.shapes.l32756 Y (-1) Y Y.length ((a + 1 : Nat) : Int) c c.gFns[fn] = some (some Y, (a' : Int))) ∨
    (R.CheckCode.l31308 fn Y ((a + 1 : Nat) : Int) c = R.CheckCode.l244 ((fn + 1 : Nat) : Int) c ∧ I.shapes.l32756 Y (-1) Y Y.length ((a + 1 : Nat) : Int) c c.gFns[fn] = some (some Y, -1) ∧ ∀ i, a ≤ i → i < c.gFns[fn].gIns.length → (Y.getD i none_).gState ≠ 0 → (bhF c c.gFns[fn] i (Y.getD i none_)).gState = 1) := fun h0 => by
   rcases ih with h1 | ⟨h1, h2, h3⟩
   ·exact .inl h1
   ·exact .inr ⟨h1, h2, fun i hi hn => by
     by_cases hia : i = a
     ·subst hia; exact h0
     ·exact h3 i (by omega) hn⟩
  rw [R_behind hc hf hS1 haf hw, Option.bind_some]
  revert hw more
  generalize Y.getD a none_ = s
  intro hw more
  cases hw with
  | no =>
   rw [bif_f (by simp [none_]), bif_f (b := none_.gState == 2) (by simp [none_]), bif_f (b := none_.gState == 1) (by simp [none_])]
   exact more fun h => absurd rfl h
  | bad =>
   have hb : bhF c c.gFns[fn] a bads = bads := by unfold bhF; simp [bads]
   rw [hb, bif_t (by simp [bads]), bif_t (by simp [bads]), bif_t (by simp [bads])]
   exact .inl ⟨a, rfl, rfl⟩
  | is sl st h1 h2 h3 h4 =>
   rw [bif_t (b := ((⟨1, sl, st⟩ : TShape).gState != 0)) (by simp), bif_f (b := ((⟨1, sl, st⟩ : TShape).gState == 2)) (by simp), bif_t (b := ((⟨1, sl, st⟩ : TShape).gState == 1)) (by simp), I_effect hc hf haf (by omega) h2 h3 h4, Option.bind_some]
   unfold bhF efI
   simp only [if_true]
   cases he : eff c c.gFns[fn] a sl st with
   | none =>
    rw [Option.getD_none, bif_t (by simp [bads]), Bool.not_false, cond_true]
    exact .inl ⟨a, rfl, rfl⟩
   | some o =>
    have := (eff_wf hc hf haf h1 h2 h4 he).2
    rw [Option.getD_some, bif_f (by rw [this]; rfl), Bool.not_true, cond_false]
    exact more fun _ => by simpa [bhF, he] using this
structure Shp (c : TCode) (k : Nat) (hk : k < c.gFns.length) (Y : List TShape) : Prop where
 r : R.l7Shapes c k = some Y
 i : ∃ z : Int, I.shapes c k = some (some Y, z)
 sol : Sol (sy c c.gFns[k]) Y
 st : ∀ i, i < c.gFns[k].gIns.length → (Y.getD i none_).gState ≠ 0 → (bhF c c.gFns[k] i (Y.getD i none_)).gState = 1
structure Valid (c : TCode) : Prop where
 co : CodeOk c
 fn : ∀ k (hk : k < c.gFns.length), FnOk c c.gFns[k]
 nm : ∀ k (hk : k < c.gFns.length), newName c k c.gFns[k] = true
 mn : ∃ r : Nat, R.l7Main c = some (r : Int) ∧ ∃ h : r < c.gFns.length, c.gFns[r].gName = ⟨#[109, 97, 105, 110]⟩
 sh : ∀ k (hk : k < c.gFns.length), ∃ Y, Shp c k hk Y
theorem codes_valid (hl : c.gFns.length ≤ 1048576) (hp : ∀ f ∈ c.gFns, f.gParams.length ≤ 1048576) : ∃ b : Bool, R.l7Ok c = some b ∧ I.validCode c = some b ∧ (b = true → Valid c) := by
 rw [R.l7Ok_eq, I.validCode_eq, R.CheckCode_eq, I.CheckCode_eq]
 rcases plains hl hp with ⟨r, h1, h2, h3⟩ | ⟨h1, h2, hC, hF, hN, hM⟩
 ·rw [h2, h3, Option.bind_some, Option.bind_some, bif_t (by simpa using h1), bif_t (by simpa using h1)]
  exact ⟨false, by simp [h1], by simp [h1], by simp⟩
 ·rw [h1, h2, Option.bind_some, Option.bind_some, bif_f (by rfl), bif_f (by rfl)]
  have hn := hC.n
  have loop : ∀ (m k : Nat), k + m = c.gFns.length → (∃ r : Int × (Int × Int), r.1 = 5 ∧ R.CheckCode.l244 k c = some r ∧ I.CheckCode.l116 c.gFns.length k c = some r) ∨
    (R.CheckCode.l244 k c = some (0, (0, 0)) ∧ I.CheckCode.l116 c.gFns.length k c = some (0, (0, 0)) ∧ ∀ j (hj : j < c.gFns.length), k ≤ j → ∃ Y, Shp c j hj Y) := by
   intro m
   induction m with
   | zero =>
    intro k hk
    rw [R.CheckCode.l244_eq, bif_f (ge_dec (by omega)), I.CheckCode.l116_eq, bif_f (ge_dec (by omega))]
    exact .inr ⟨rfl, rfl, fun j hj h => by omega⟩
   | succ m ih =>
    intro k hk
    have hkl : k < c.gFns.length := by omega
    obtain ⟨Y, a1, a2, a3⟩ := R_shapes hC hkl (hF k hkl)
    obtain ⟨Y', b1, b2, b3⟩ := I_shapes hC hkl (hF k hkl)
    have hYY : Y' = Y := Sol.unique b2 b3 a2 a3
    subst hYY
    rw [R.CheckCode.l244_eq, bif_t (lt_dec hkl), a1, Option.bind_some, I.CheckCode.l116_eq, bif_t (lt_dec hkl), b1, wi_succ (by omega)]
    rcases scans hC hkl (hF k hkl) a2.wf _ 0 (Nat.zero_add _) with ⟨a', d1, d2⟩ | ⟨d1, d2, d3⟩
    ·have d1 : R.CheckCode.l31308 k Y' 0 c = _ := d1
     have d2 : I.shapes.l32756 Y' (-1) Y' Y'.length 0 c c.gFns[k] = _ := d2
     rw [d1, d2, Option.bind_some, bif_t (decide_eq_true (by simp only []; omega))]
     exact .inl ⟨_, rfl, rfl, rfl⟩
    ·have d1 : R.CheckCode.l31308 k Y' 0 c = _ := d1
     have d2 : I.shapes.l32756 Y' (-1) Y' Y'.length 0 c c.gFns[k] = _ := d2
     rw [d1, d2, Option.bind_some, bif_f (decide_eq_false (by simp only []; omega))]
     rcases ih (k + 1) (by omega) with h | ⟨e1, e2, e3⟩
     ·exact .inl h
     ·refine .inr ⟨e1, e2, fun j hj h => ?_⟩
      by_cases hjk : j = k
      ·subst hjk
       exact ⟨Y', a1, ⟨-1, b1.trans d2⟩, a2, fun i hi => d3 i (Nat.zero_le _) hi⟩
      ·exact e3 j hj (by omega)
  rcases loop c.gFns.length 0 (by omega) with ⟨r, h0, e1, e2⟩ | ⟨e1, e2, e3⟩
  ·have e1 : R.CheckCode.l244 0 c = _ := e1
   have e2 : I.CheckCode.l116 c.gFns.length 0 c = _ := e2
   rw [e1, e2]
   exact ⟨false, by simp [h0], by simp [h0], by simp⟩
  ·have e1 : R.CheckCode.l244 0 c = _ := e1
   have e2 : I.CheckCode.l116 c.gFns.length 0 c = _ := e2
   rw [e1, e2]
   exact ⟨true, rfl, rfl, fun _ => ⟨hC, hF, hN, hM, fun k hk => e3 k hk (Nat.zero_le _)⟩⟩
end
section
theorem pre_loop (s : ByteArray) (hs : s.size ≤ 60) : ∀ (m i : Nat), i + m = s.size → ∃ b, R.l6PrefixOk.l116 s i = some b ∧ I.pathText.l116 s i = some b := by
 intro m
 induction m with
 | zero =>
  intro i hi
  rw [R.l6PrefixOk.l116_eq, I.pathText.l116_eq, bif_f (ge_dec (by omega)), bif_f (ge_dec (by omega))]
  exact ⟨_, rfl, rfl⟩
 | succ m ih =>
  intro i hi
  have hlt : i < s.size := by omega
  rw [R.l6PrefixOk.l116_eq, I.pathText.l116_eq, bif_t (lt_dec hlt), bif_t (lt_dec hlt)]
  simp only [inB_nat hlt, cond_true]
  cases h1 : decide (bt s (i : Int) < 33) with
  | true => exact ⟨_, rfl, rfl⟩
  | false =>
   simp only [cond_false]
   cases h2 : decide (bt s (i : Int) > 126) with
   | true => exact ⟨_, rfl, rfl⟩
   | false =>
    simp only [cond_false]
    rw [wi_succ (by omega)]
    exact ih (i + 1) (by omega)
theorem path_same (s : ByteArray) : ∃ b, R.l6PathOk s = some b ∧ I.fileName s = some b := by
 rw [R.l6PathOk_eq, I.fileName_eq]
 by_cases h0 : s.size = 0
 ·have he : s = ⟨#[]⟩ := by
   obtain ⟨⟨l⟩⟩ := s
   have : l = [] := List.eq_nil_of_length_eq_zero h0
   subst this; rfl
  subst he
  exact ⟨false, rfl, by rw [bEq_self]; rfl⟩
 ·have he : bEq s ⟨#[]⟩ = false := by
   cases hh : bEq s ⟨#[]⟩ with
   | false => rfl
   | true => rw [bEq_iff.1 hh] at h0; exact (h0 rfl).elim
  rw [he, bif_t (b := decide ((s.size : Int) ≥ 1)) (by simp; omega), Bool.not_false, cond_true, R.l6PrefixOk_eq, I.pathText_eq]
  by_cases h1 : (s.size : Int) > 60
  ·rw [bif_t (by simpa using h1), bif_t (by simpa using h1)]; exact ⟨_, rfl, rfl⟩
  ·rw [bif_f (by simpa using h1), bif_f (by simpa using h1)]
   obtain ⟨b, h2, h3⟩ := pre_loop s (by omega) s.size 0 (by omega)
   have h2 : R.l6PrefixOk.l116 s 0 = some b := h2
   have h3 : I.pathText.l116 s 0 = some b := h3
   rw [h2, h3]; exact ⟨b, rfl, rfl⟩
theorem ok_loop (fs : List TFile) (hl : fs.length ≤ 40) : ∀ (m i : Nat), i + m = fs.length → ∃ b, R.l9FilesOk.l116 fs i = some b ∧ I.filesOk.l116 fs fs fs.length i = some b ∧
  (b = true → ∀ j (hj : j < fs.length), (h0 : 0 < j) → i ≤ j → bLt (fs[j - 1]'(by omega)).gName fs[j].gName = true) := by
 intro m
 induction m with
 | zero =>
  intro i hi
  rw [R.l9FilesOk.l116_eq, I.filesOk.l116_eq, bif_f (ge_dec (by omega)), bif_f (ge_dec (by omega))]
  exact ⟨_, rfl, rfl, fun _ j hj h0 h1 => by omega⟩
 | succ m ih =>
  intro i hi
  have hlt : i < fs.length := by omega
  have hn : (i : Int).toNat = i := by omega
  rw [R.l9FilesOk.l116_eq, I.filesOk.l116_eq, bif_t (lt_dec hlt), bif_t (lt_dec hlt)]
  obtain ⟨p, h1, h2⟩ := path_same fs[i].gName
  simp only [inB_nat hlt, cond_true, hn, getD_lt hlt, h1, h2, Option.bind_some]
  cases p with
  | false => exact ⟨_, rfl, rfl, fun h => by simp at h⟩
  | true =>
   simp only [Bool.not_true, cond_false]
   cases h3 : decide ((fs[i].gText.size : Int) > 3000) with
   | true => exact ⟨_, rfl, rfl, fun h => by simp at h⟩
   | false =>
    simp only [cond_false, wi_succ (show i < 9223372036854775807 by omega)]
    obtain ⟨b, h4, h5, h6⟩ := ih (i + 1) (by omega)
    by_cases hi0 : i = 0
    ·subst hi0
     rw [bif_f (b := decide (((0 : Nat) : Int) > 0)) (by decide), bif_f (b := decide (((0 : Nat) : Int) > 0)) (by decide)]
     exact ⟨b, h4, h5, fun hb j hj h0 h1 => h6 hb j hj h0 (by omega)⟩
    ·have hw : IntKind.i64.wrap ((i : Int) - 1) = ((i - 1 : Nat) : Int) := by rw [wi (by omega) (by omega)]; omega
     have hn1 : ((i - 1 : Nat) : Int).toNat = i - 1 := by omega
     have hlt1 : i - 1 < fs.length := by omega
     rw [bif_t (b := decide ((i : Int) > 0)) (by simp; omega), bif_t (b := decide ((i : Int) > 0)) (by simp; omega), hw]
     simp only [inB_nat hlt1, inB_nat hlt, cond_true, hn1, getD_lt hlt1]
     cases h7 : bLt fs[i - 1].gName fs[i].gName with
     | false => exact ⟨_, rfl, rfl, fun h => by simp at h⟩
     | true =>
      simp only [Bool.not_true, cond_false]
      refine ⟨b, h4, h5, fun hb j hj h0 h1 => ?_⟩
      by_cases hj1 : j = i
      ·subst hj1; exact h7
      ·exact h6 hb j hj h0 (by omega)
theorem nef {x y : Int} (h : x = y) : (x != y) = false := by simp [h]
theorem net {x y : Int} (h : x ≠ y) : (x != y) = true := by simpa using h
theorem eqt {x y : Int} (h : x = y) : (x == y) = true := by simp [h]
theorem eqf {x y : Int} (h : x ≠ y) : (x == y) = false := by simpa using h
theorem wi_pred {i : Nat} (h : 0 < i) (h' : i < 9223372036854775807) : IntKind.i64.wrap ((i : Int) - 1) = ((i - 1 : Nat) : Int) := by rw [wi (by omega) (by omega)]; omega
theorem files_same (fs : List TFile) : ∃ b, R.l9FilesOk fs 20 = some b ∧ I.filesOk fs 20 = some b ∧ (b = true → fs.length ≤ 20) := by
 rw [R.l9FilesOk_eq, I.filesOk_eq]
 by_cases h : (fs.length : Int) > 20
 ·rw [bif_t (decide_eq_true h), bif_t (decide_eq_true h)]; exact ⟨false, rfl, rfl, by simp⟩
 ·rw [bif_f (decide_eq_false h), bif_f (decide_eq_false h)]
  obtain ⟨b, h1, h2, _⟩ := ok_loop fs (by omega) fs.length 0 (by omega)
  have h1 : R.l9FilesOk.l116 fs 0 = some b := h1
  have h2 : I.filesOk.l116 fs fs fs.length 0 = some b := h2
  exact ⟨b, h1, h2, fun _ => by omega⟩
def shortT (s : ByteArray) : Bool := decide ((s.size : Int) ≤ 3000)
theorem texts_run (l : List ByteArray) (hl : l.length ≤ 1048576) (F : Int → Option Bool) (fin : Option Bool)
  (h : ∀ k (hk : k < l.length), F (k : Int) = bif decide ((l[k].size : Int) > 3000) then some false else F ((k + 1 : Nat) : Int)) (hend : F (l.length : Int) = fin) : F 0 = bif l.all shortT then fin else some false :=
 all_run l shortT F fin (fun k hk => by
  rw [h k hk]
  unfold shortT
  by_cases hs : (l[k].size : Int) ≤ 3000
  ·rw [bif_f (decide_eq_false (by omega)), bif_t (decide_eq_true hs)]
  ·rw [bif_t (decide_eq_true (by omega)), bif_f (decide_eq_false hs)]) hend
theorem R_texts (l : List ByteArray) (hl : l.length ≤ 1048576) (most : Int) : R.l9TextsOk l most = some (decide ((l.length : Int) ≤ most) && l.all shortT) := by
 have h1 := texts_run l hl (fun i => R.l9TextsOk.l116 l i) (some true) (fun k hk => by
  rw [R.l9TextsOk.l116_eq, bif_t (lt_dec hk), bif_t (inB_nat hk), Int.toNat_natCast, getD_lt hk, wi_succ (by omega)]) (by rw [R.l9TextsOk.l116_eq, bif_f (ge_dec (by omega))])
 have h1 : R.l9TextsOk.l116 l 0 = _ := h1
 rw [R.l9TextsOk_eq, h1]
 by_cases h : (l.length : Int) > most
 ·rw [bif_t (decide_eq_true h), decide_eq_false (by omega)]; rfl
 ·rw [bif_f (decide_eq_false h), decide_eq_true (by omega)]; cases l.all shortT <;> rfl
theorem I_said (l : List ByteArray) (hl : l.length ≤ 1048576) (m : List TCode) (m_1 m_2 : List ByteArray) (m_3 : List TFrame) (m_4 m_5 m_6 : Int) (m_7 m_8 : ByteArray) (m_9 : Bool) (m_10 : Int) (m_11 : ByteArray) (m_12 : List TFile) (m_13 : List ByteArray) :
  I.ValidMachine.l116 l l.length 0 m m_1 m_2 m_3 m_4 m_5 m_6 m_7 m_8 m_9 m_10 m_11 m_12 m_13 = bif l.all shortT then I.ValidMachine.l116 l l.length l.length m m_1 m_2 m_3 m_4 m_5 m_6 m_7 m_8 m_9 m_10 m_11 m_12 m_13 else some false :=
 texts_run l hl (fun i => I.ValidMachine.l116 l l.length i m m_1 m_2 m_3 m_4 m_5 m_6 m_7 m_8 m_9 m_10 m_11 m_12 m_13) _ (fun k hk => by
  rw [I.ValidMachine.l116_eq, bif_t (lt_dec hk), bif_t (inB_nat hk), Int.toNat_natCast, getD_lt hk, wi_succ (by omega)]) rfl
theorem I_args (l : List ByteArray) (hl : l.length ≤ 1048576) (m : List TCode) (m_1 m_2 : List ByteArray) (m_3 : List TFrame) (m_4 m_5 m_6 : Int) (m_7 m_8 : ByteArray) (m_9 : Bool) (m_10 : Int) (m_11 : ByteArray) (m_12 : List TFile) (m_13 : List ByteArray) :
  I.ValidMachine.l2036 l l.length 0 m m_1 m_2 m_3 m_4 m_5 m_6 m_7 m_8 m_9 m_10 m_11 m_12 m_13 = bif l.all shortT then I.ValidMachine.l4084 m_12 m_12.length 0 m m_1 m_2 m_3 m_4 m_5 m_6 m_7 m_8 m_9 m_10 m_11 m_12 m_13 else some false :=
 texts_run l hl (fun i => I.ValidMachine.l2036 l l.length i m m_1 m_2 m_3 m_4 m_5 m_6 m_7 m_8 m_9 m_10 m_11 m_12 m_13) _ (fun k hk => by
  rw [I.ValidMachine.l2036_eq, bif_t (lt_dec hk), bif_t (inB_nat hk), Int.toNat_natCast, getD_lt hk, wi_succ (by omega)]) (by rw [I.ValidMachine.l2036_eq, bif_f (ge_dec (by omega))])
theorem job_loop (j : TJob) (hl : j.gOuts.length ≤ 20) : ∀ (m i : Nat), i + m = j.gOuts.length → ∃ b, R.ValidJob.l116 i j = some b ∧ I.ValidJob.l116 j.gOuts j.gOuts.length i j = some b := by
 intro m
 induction m with
 | zero =>
  intro i hi
  rw [R.ValidJob.l116_eq, I.ValidJob.l116_eq, bif_f (ge_dec (by omega)), bif_f (ge_dec (by omega))]
  exact ⟨_, rfl, rfl⟩
 | succ m ih =>
  intro i hi
  have hlt : i < j.gOuts.length := by omega
  have hn : (i : Int).toNat = i := by omega
  rw [R.ValidJob.l116_eq, I.ValidJob.l116_eq, bif_t (lt_dec hlt), bif_t (lt_dec hlt)]
  obtain ⟨p, h1, h2⟩ := path_same j.gOuts[i]
  simp only [inB_nat hlt, cond_true, hn, getD_lt hlt, h1, h2, Option.bind_some]
  cases p with
  | false => exact ⟨_, rfl, rfl⟩
  | true =>
   simp only [Bool.not_true, cond_false, wi_succ (show i < 9223372036854775807 by omega)]
   obtain ⟨b, h4, h5⟩ := ih (i + 1) (by omega)
   rw [h4, h5]
   by_cases hi0 : i = 0
   ·subst hi0
    exact ⟨b, rfl, rfl⟩
   ·have hlt1 : i - 1 < j.gOuts.length := by omega
    rw [decide_eq_true (show (i : Int) > 0 by omega), cond_true, wi_pred (by omega) (by omega), inB_nat hlt1, cond_true]
    generalize bLt _ j.gOuts[i] = q
    cases q with
    | false => exact ⟨_, rfl, rfl⟩
    | true => exact ⟨b, rfl, rfl⟩
theorem job_same (j : TJob) : ∃ b, R.ValidJob j = some b ∧ I.ValidJob j = some b := by
 rw [R.ValidJob_eq, I.ValidJob_eq]
 cases decide ((j.gArg.size : Int) > 3000) with
 | true => exact ⟨_, rfl, rfl⟩
 | false =>
  rw [cond_false, cond_false]
  by_cases h : (j.gOuts.length : Int) > 20
  ·rw [bif_t (decide_eq_true h), bif_t (decide_eq_true h)]; exact ⟨_, rfl, rfl⟩
  ·rw [bif_f (decide_eq_false h), bif_f (decide_eq_false h)]
   exact job_loop j (by omega) _ 0 (Nat.zero_add _)
def inOuts (outs : List ByteArray) (f : TFile) : Bool := outs.any fun o => bEq o f.gName
def anyFrom (outs : List ByteArray) (f : TFile) (k : Nat) (t : Bool) : Bool := t || (outs.drop k).any fun o => bEq o f.gName
theorem R_there (m : TMachine) (h20 : m.gOuts.length ≤ 1048576) (hf : m.gFiles.length ≤ 20) {i : Nat} (hi : i < m.gFiles.length) : ∀ (q k : Nat) (t : Bool), k + q = m.gOuts.length →
  R.ValidMachine.l128148 i t k m = bif anyFrom m.gOuts m.gFiles[i] k t then R.ValidMachine.l500 ((i + 1 : Nat) : Int) m else some false := by
 intro q
 induction q with
 | zero =>
  intro k t hk
  rw [R.ValidMachine.l128148_eq, bif_f (ge_dec (by omega)), wi_succ (by omega)]
  have : anyFrom m.gOuts m.gFiles[i] k t = t := by unfold anyFrom; rw [List.drop_eq_nil_of_le (by omega)]; simp
  rw [this]; cases t <;> rfl
 | succ q ih =>
  intro k t hk
  have hlt : k < m.gOuts.length := by omega
  rw [R.ValidMachine.l128148_eq, bif_t (lt_dec hlt), bif_t (inB_nat hlt), bif_t (inB_nat hi), Int.toNat_natCast, Int.toNat_natCast, getD_lt hlt, getD_lt hi, wi_succ (by omega), ih (k + 1) _ (by omega), ih (k + 1) _ (by omega)]
  unfold anyFrom
  rw [drop_get hlt, List.any_cons]
  cases t <;> simp
theorem I_there (m : List TCode) (m_1 m_2 : List ByteArray) (m_3 : List TFrame) (m_4 m_5 m_6 : Int) (m_7 m_8 : ByteArray) (m_9 : Bool) (m_10 : Int) (m_11 : ByteArray) (m_12 : List TFile) (m_13 : List ByteArray)
  (h20 : m_2.length ≤ 1048576) (hf : m_12.length ≤ 20) {i : Nat} (hi : i < m_12.length) : ∀ (q k : Nat) (t : Bool), k + q = m_2.length →
  I.ValidMachine.l4182836 t m_12 m_12.length i m_2 m_2.length k m_12[i] m m_1 m_2 m_3 m_4 m_5 m_6 m_7 m_8 m_9 m_10 m_11 m_12 m_13 =
   bif anyFrom m_2 m_12[i] k t then I.ValidMachine.l4084 m_12 m_12.length ((i + 1 : Nat) : Int) m m_1 m_2 m_3 m_4 m_5 m_6 m_7 m_8 m_9 m_10 m_11 m_12 m_13 else some false := by
 intro q
 induction q with
 | zero =>
  intro k t hk
  rw [I.ValidMachine.l4182836_eq, bif_f (ge_dec (by omega)), wi_succ (by omega)]
  have : anyFrom m_2 m_12[i] k t = t := by unfold anyFrom; rw [List.drop_eq_nil_of_le (by omega)]; simp
  rw [this]; cases t <;> rfl
 | succ q ih =>
  intro k t hk
  have hlt : k < m_2.length := by omega
  rw [I.ValidMachine.l4182836_eq, bif_t (lt_dec hlt), bif_t (inB_nat hlt), Int.toNat_natCast, getD_lt hlt, wi_succ (by omega), ih (k + 1) _ (by omega), ih (k + 1) _ (by omega)]
  unfold anyFrom
  rw [drop_get hlt, List.any_cons]
  cases t <;> simp
theorem R_subset (m : TMachine) (h20 : m.gOuts.length ≤ 1048576) (hf : m.gFiles.length ≤ 20) : R.ValidMachine.l500 0 m = bif m.gFiles.all (inOuts m.gOuts) then R.ValidMachine.l1012 0 m else some false :=
 all_run m.gFiles (inOuts m.gOuts) (fun i => R.ValidMachine.l500 i m) _ (fun k hk => by
  show R.ValidMachine.l500 k m = _
  rw [R.ValidMachine.l500_eq, bif_t (lt_dec hk)]
  have := R_there m h20 hf hk _ 0 false (Nat.zero_add _)
  have this : R.ValidMachine.l128148 k false 0 m = _ := this
  rw [this]
  rfl) (by show R.ValidMachine.l500 _ m = _; rw [R.ValidMachine.l500_eq, bif_f (ge_dec (by omega))])
theorem I_subset (m : List TCode) (m_1 m_2 : List ByteArray) (m_3 : List TFrame) (m_4 m_5 m_6 : Int) (m_7 m_8 : ByteArray) (m_9 : Bool) (m_10 : Int) (m_11 : ByteArray) (m_12 : List TFile) (m_13 : List ByteArray)
  (h20 : m_2.length ≤ 1048576) (hf : m_12.length ≤ 20) : I.ValidMachine.l4084 m_12 m_12.length 0 m m_1 m_2 m_3 m_4 m_5 m_6 m_7 m_8 m_9 m_10 m_11 m_12 m_13 =
   bif m_12.all (inOuts m_2) then I.ValidMachine.l8180 m m.length 0 m m_1 m_2 m_3 m_4 m_5 m_6 m_7 m_8 m_9 m_10 m_11 m_12 m_13 else some false :=
 all_run m_12 (inOuts m_2) (fun i => I.ValidMachine.l4084 m_12 m_12.length i m m_1 m_2 m_3 m_4 m_5 m_6 m_7 m_8 m_9 m_10 m_11 m_12 m_13) _ (fun k hk => by
  show I.ValidMachine.l4084 m_12 m_12.length k m m_1 m_2 m_3 m_4 m_5 m_6 m_7 m_8 m_9 m_10 m_11 m_12 m_13 = _
  rw [I.ValidMachine.l4084_eq, bif_t (lt_dec hk), bif_t (inB_nat hk), Int.toNat_natCast, getD_lt hk]
  have := I_there m m_1 m_2 m_3 m_4 m_5 m_6 m_7 m_8 m_9 m_10 m_11 m_12 m_13 h20 hf hk _ 0 false (Nat.zero_add _)
  have this : I.ValidMachine.l4182836 false m_12 m_12.length k m_2 m_2.length 0 m_12[k] m m_1 m_2 m_3 m_4 m_5 m_6 m_7 m_8 m_9 m_10 m_11 m_12 m_13 = _ := this
  rw [this]
  rfl) (by show I.ValidMachine.l4084 _ _ _ m m_1 m_2 m_3 m_4 m_5 m_6 m_7 m_8 m_9 m_10 m_11 m_12 m_13 = _; rw [I.ValidMachine.l4084_eq, bif_f (ge_dec (by omega))])
end
section
def zeroV (v : TValue) : Bool := v.gType == 0 && (v.gN == 0 && (v.gText.toList == (ByteArray.mk #[]).toList && true))
def slotP (p : TValue × Int) : Bool := (valid p.1 || zeroV p.1) && (decide (p.2 = 0) || decide (p.1.gType = p.2))
def stackP (p : TValue × Int) : Bool := valid p.1 && decide (p.1.gType = p.2)
theorem zip_at {α β : Type} {l : List α} {l' : List β} {k : Nat} (hk : k < (l.zip l').length) : (l.zip l')[k] = (l[k]'(by simp at hk; omega), l'[k]'(by simp at hk; omega)) := by simp
theorem I_slots (f : TFrame) (s : TShape) (h : f.gSlots.length = s.gSlots.length) (hl : f.gSlots.length ≤ 1048576) :
  I.frameFits.l116 f.gSlots f.gSlots.length 0 f s = bif (f.gSlots.zip s.gSlots).all slotP then I.frameFits.l244 f.gStack f.gStack.length 0 s else some false :=
 all_run (f.gSlots.zip s.gSlots) slotP (fun i => I.frameFits.l116 f.gSlots f.gSlots.length i f s) _ (fun k hk => by
  have hk1 : k < f.gSlots.length := by simp at hk; omega
  have hk2 : k < s.gSlots.length := by omega
  show I.frameFits.l116 _ _ _ f s = _
  rw [I.frameFits.l116_eq, bif_t (lt_dec hk1), bif_t (inB_nat hk1), Int.toNat_natCast, getD_lt hk1, I_valid, Option.bind_some, wi_succ (by omega), inB_nat hk2, cond_true, cond_true, getD_lt hk2, zip_at hk]
  show _ = bif (valid f.gSlots[k] || zeroV f.gSlots[k]) && (decide (s.gSlots[k] = 0) || decide (f.gSlots[k].gType = s.gSlots[k])) then _ else _
  change (bif !valid f.gSlots[k] then bif !zeroV f.gSlots[k] then some false else _ else _) = _
  by_cases h0 : s.gSlots[k] = 0
  ·rw [bif_f (b := s.gSlots[k] != 0) (by simp [h0]), decide_eq_true h0]
   cases valid f.gSlots[k] <;> cases zeroV f.gSlots[k] <;> rfl
  ·rw [bif_t (b := s.gSlots[k] != 0) (by simp [h0]), decide_eq_false h0]
   by_cases h1 : f.gSlots[k].gType = s.gSlots[k]
   ·rw [bif_f (b := f.gSlots[k].gType != s.gSlots[k]) (by simp [h1]), decide_eq_true h1]
    cases valid f.gSlots[k] <;> cases zeroV f.gSlots[k] <;> rfl
   ·rw [bif_t (b := f.gSlots[k].gType != s.gSlots[k]) (by simp [h1]), decide_eq_false h1]
    cases valid f.gSlots[k] <;> cases zeroV f.gSlots[k] <;> rfl) (by
  have hz : (f.gSlots.zip s.gSlots).length = f.gSlots.length := by simp; omega
  show I.frameFits.l116 _ _ _ f s = _
  rw [hz, I.frameFits.l116_eq, bif_f (ge_dec (by omega))])
theorem I_stack (t : List TValue) (s : TShape) (h : t.length ≤ s.gStack.length) (hl : t.length ≤ 1048576) : I.frameFits.l244 t t.length 0 s = some ((t.zip s.gStack).all stackP) := by
 have := all_run (t.zip s.gStack) stackP (fun i => I.frameFits.l244 t t.length i s) (some true) (fun k hk => by
  have hk1 : k < t.length := by simp at hk; omega
  have hk2 : k < s.gStack.length := by omega
  show I.frameFits.l244 _ _ _ s = _
  rw [I.frameFits.l244_eq, bif_t (lt_dec hk1), bif_t (inB_nat hk1), Int.toNat_natCast, getD_lt hk1, I_valid, Option.bind_some, wi_succ (by omega), inB_nat hk2, cond_true, getD_lt hk2, zip_at hk]
  show _ = bif valid t[k] && decide (t[k].gType = s.gStack[k]) then _ else _
  by_cases h1 : t[k].gType = s.gStack[k]
  ·rw [bif_f (b := t[k].gType != s.gStack[k]) (by simp [h1]), decide_eq_true h1]
   cases valid t[k] <;> rfl
  ·rw [bif_t (b := t[k].gType != s.gStack[k]) (by simp [h1]), decide_eq_false h1]
   cases valid t[k] <;> rfl) (by
  have hz : (t.zip s.gStack).length = t.length := by simp; omega
  show I.frameFits.l244 _ _ _ s = _
  rw [hz, I.frameFits.l244_eq, bif_f (ge_dec (by omega))])
 have this : I.frameFits.l244 t t.length 0 s = _ := this
 rw [this]; cases (t.zip s.gStack).all stackP <;> rfl
theorem R_slots (k : Int) (Y : List TShape) (m : TMachine) (f : TFrame) (fn : TFn) (s : TShape) (h : f.gSlots.length = s.gSlots.length) (hl : f.gSlots.length ≤ 1048576) :
  R.l9FrameOk.l4084 k Y 0 m f fn s = bif (f.gSlots.zip s.gSlots).all slotP then R.l9FrameOk.l4084 k Y f.gSlots.length m f fn s else some false :=
 all_run (f.gSlots.zip s.gSlots) slotP (fun i => R.l9FrameOk.l4084 k Y i m f fn s) _ (fun j hj => by
  have hk1 : j < f.gSlots.length := by simp at hj; omega
  have hk2 : j < s.gSlots.length := by omega
  show R.l9FrameOk.l4084 k Y _ m f fn s = _
  rw [R.l9FrameOk.l4084_eq, bif_t (lt_dec hk1), bif_t (inB_nat hk2), Int.toNat_natCast, getD_lt hk2, wi_succ (by omega), inB_nat hk1, cond_true, cond_true, getD_lt hk1, R_valid, Option.bind_some, cond_true, inB_nat hk2, cond_true, zip_at hj]
  show _ = bif (valid f.gSlots[j] || zeroV f.gSlots[j]) && (decide (s.gSlots[j] = 0) || decide (f.gSlots[j].gType = s.gSlots[j])) then _ else _
  by_cases h0 : s.gSlots[j] = 0
  ·rw [bif_f (b := s.gSlots[j] != 0) (by simp [h0]), decide_eq_true h0]
   change (bif !zeroV f.gSlots[j] then _ else _) = _
   cases valid f.gSlots[j] <;> cases zeroV f.gSlots[j] <;> rfl
  ·rw [bif_t (b := s.gSlots[j] != 0) (by simp [h0]), decide_eq_false h0]
   by_cases h1 : f.gSlots[j].gType = s.gSlots[j]
   ·rw [bif_f (b := f.gSlots[j].gType != s.gSlots[j]) (by simp [h1]), decide_eq_true h1]
    change (bif !zeroV f.gSlots[j] then _ else _) = _
    cases valid f.gSlots[j] <;> cases zeroV f.gSlots[j] <;> rfl
   ·rw [bif_t (b := f.gSlots[j].gType != s.gSlots[j]) (by simp [h1]), decide_eq_false h1]
    cases valid f.gSlots[j] <;> cases zeroV f.gSlots[j] <;> rfl) (by
  have hz : (f.gSlots.zip s.gSlots).length = f.gSlots.length := by simp; omega
  show R.l9FrameOk.l4084 k Y _ m f fn s = _
  rw [hz])
theorem R_stack (want : List Int) (f : TFrame) (hl : want.length ≤ 1048576) : R.l9FrameOk.l2047 want f = some (decide (f.gStack.length = want.length) && (f.gStack.zip want).all stackP) := by
 rw [R.l9FrameOk.l2047_eq]
 by_cases h : f.gStack.length = want.length
 ·rw [bif_f (by simp [h]), decide_eq_true h]
  have := all_run (f.gStack.zip want) stackP (fun i => R.l9FrameOk.l65524 want i f) (some true) (fun k hk => by
   have hk1 : k < f.gStack.length := by simp at hk; omega
   have hk2 : k < want.length := by omega
   show R.l9FrameOk.l65524 want _ f = _
   rw [R.l9FrameOk.l65524_eq, bif_t (lt_dec hk2), inB_nat hk1, cond_true, cond_true, inB_nat hk2, cond_true, Int.toNat_natCast, getD_lt hk1, getD_lt hk2, R_valid, Option.bind_some, wi_succ (by omega), zip_at hk]
   show _ = bif valid f.gStack[k] && decide (f.gStack[k].gType = want[k]) then _ else _
   by_cases h1 : f.gStack[k].gType = want[k]
   ·rw [bif_f (b := f.gStack[k].gType != want[k]) (by simp [h1]), decide_eq_true h1]
    cases valid f.gStack[k] <;> rfl
   ·rw [bif_t (b := f.gStack[k].gType != want[k]) (by simp [h1]), decide_eq_false h1]
    cases valid f.gStack[k] <;> rfl) (by
   have hz : (f.gStack.zip want).length = want.length := by simp; omega
   show R.l9FrameOk.l65524 want _ f = _
   rw [hz, R.l9FrameOk.l65524_eq, bif_f (ge_dec (by omega))])
  have this : R.l9FrameOk.l65524 want 0 f = _ := this
  rw [this]; cases (f.gStack.zip want).all stackP <;> rfl
 ·rw [bif_t (by simp; omega), decide_eq_false h]; rfl
def fits (f : TFrame) (g : TFn) (s : TShape) (lacks : Int) : Bool :=
 decide (s.gState = 1) && (decide ((f.gSlots.length : Int) = g.gSlots) && (decide ((f.gStack.length : Int) = (s.gStack.length : Int) - lacks) && ((f.gSlots.zip s.gSlots).all slotP && (f.gStack.zip s.gStack).all stackP)))
theorem I_fits {S : Nat} {f : TFrame} {g : TFn} {s : TShape} {lacks : Int} (hw : Wf S s) (hS : g.gSlots = S) (h2 : S ≤ 200) (hl : lacks = 0 ∨ lacks = 1) : I.frameFits f g s lacks = some (fits f g s lacks) := by
 rw [I.frameFits_eq]
 unfold fits
 cases hw with
 | no => rfl
 | bad => rfl
 | is sl st h1 h2' h3 h4 =>
  simp only []
  rw [bif_f (b := ((1 : Int) != 1)) (by simp), decide_eq_true trivial]
  by_cases e1 : (f.gSlots.length : Int) = g.gSlots
  ·rw [bif_f (b := ((f.gSlots.length : Int) != g.gSlots)) (by simp [e1]), decide_eq_true e1, wi (by omega) (by omega)]
   by_cases e2 : (f.gStack.length : Int) = (st.length : Int) - lacks
   ·rw [bif_f (b := ((f.gStack.length : Int) != (st.length : Int) - lacks)) (by simp [e2]), decide_eq_true e2, I_slots f ⟨1, sl, st⟩ (by simp only []; omega) (by omega), I_stack f.gStack ⟨1, sl, st⟩ (by simp only []; omega) (by omega)]
    cases (f.gSlots.zip sl).all slotP <;> rfl
   ·rw [bif_t (b := ((f.gStack.length : Int) != (st.length : Int) - lacks)) (by simpa using e2), decide_eq_false e2]; rfl
  ·rw [bif_t (b := ((f.gSlots.length : Int) != g.gSlots)) (by simpa using e1), decide_eq_false e1]; rfl
end
section
def lackI (fr : List TFrame) (kind : Int) (k : Nat) (f : TFrame) (c : TCode) (x : TIns) : Option Int :=
 if k + 1 < fr.length then
  (if (fr.getD (k + 1) TFrame.z).gCode = f.gCode then (if x.gOp = 9 ∧ x.gA = (fr.getD (k + 1) TFrame.z).gFn then some (if (c.gFns.getD x.gA.toNat TFn.z).gResult = 0 then 0 else 1) else none)
   else if x.gOp = 8 ∧ x.gA = 4 then some 1 else none)
 else if x.gOp = 8 ∧ x.gA = kind then some 1 else none
def bodyI (fr : List TFrame) (kind : Int) (k : Nat) (f : TFrame) (c : TCode) (g : TFn) (Y : List TShape) (a : Nat) : Bool :=
 if k + 1 < fr.length ∨ kind ≠ 0 then
  (if a = 0 then false else if (Y.getD (a - 1) none_).gState = 1 then (match lackI fr kind k f c (g.gIns.getD (a - 1) TIns.z) with
   | none => false
   | some l => fits f g (Y.getD a none_) l) else false)
 else fits f g (Y.getD a none_) 0
variable {c : TCode}
theorem I_body (m : List TCode) (m_1 m_2 : List ByteArray) (m_3 : List TFrame) (m_4 m_5 m_6 : Int) (m_7 m_8 : ByteArray) (m_9 : Bool) (m_10 : Int) (m_11 : ByteArray) (m_12 : List TFile) (m_13 : List ByteArray) (n : Int) (known : List (ByteArray × Option (List TShape))) (t46 : List TFrame) (t47 t48 : Int) {k : Nat} (f : TFrame) {fi : Nat} {Y : List TShape} {a : Nat} (hc : CodeOk c) (hfi : fi < c.gFns.length) (hf : FnOk c c.gFns[fi])
  (hY : Wfs c.gFns[fi].gIns.length (sy c c.gFns[fi]).S Y) (ha : f.gAt = (a : Int)) (hal : a < c.gFns[fi].gIns.length) (hn : n = (m_3.length : Int)) (hk : k < m_3.length) (hn40 : m_3.length ≤ 40) :
  I.Machine_framesOk.l8205311 n known k (some Y) t46 t47 t48 f c c.gFns[fi] m m_1 m_2 m_3 m_4 m_5 m_6 m_7 m_8 m_9 m_10 m_11 m_12 m_13 = bif bodyI m_3 m_6 k f c c.gFns[fi] Y a then I.Machine_framesOk.l500 n known t46 t47 (IntKind.i64.wrap (t48 + 1)) m m_1 m_2 m_3 m_4 m_5 m_6 m_7 m_8 m_9 m_10 m_11 m_12 m_13 else some (false, (m, (m_1, (m_2, (m_3, (m_4, (m_5, (m_6, (m_7, (m_8, (m_9, (m_10, (m_11, (m_12, m_13)))))))))))))) := by
 have h5 := hf.h.i5
 obtain ⟨hS1, hS2⟩ := slotsN hf
 have hYl := hY.1
 have fin : ∀ l : Int, l = 0 ∨ l = 1 → I.Machine_framesOk.l32821247 n known (some Y) l t46 t47 t48 f c.gFns[fi] m m_1 m_2 m_3 m_4 m_5 m_6 m_7 m_8 m_9 m_10 m_11 m_12 m_13 = bif fits f c.gFns[fi] (Y.getD a none_) l then I.Machine_framesOk.l500 n known t46 t47 (IntKind.i64.wrap (t48 + 1)) m m_1 m_2 m_3 m_4 m_5 m_6 m_7 m_8 m_9 m_10 m_11 m_12 m_13 else some (false, (m, (m_1, (m_2, (m_3, (m_4, (m_5, (m_6, (m_7, (m_8, (m_9, (m_10, (m_11, (m_12, m_13)))))))))))))) := fun l hl => by
  rw [I.Machine_framesOk.l32821247_eq, Option.getD_some, ha, bif_t (inB_nat (show a < Y.length by omega)), Int.toNat_natCast]
  have hz : Y.getD a TShape.z = Y.getD a none_ := rfl
  rw [hz, I_fits (hY.2 a hal) hS1 hS2 hl, Option.bind_some]
  cases fits f c.gFns[fi] (Y.getD a none_) l <;> rfl
 rw [I.Machine_framesOk.l8205311_eq, hn, wi_pred (by omega) (by omega), ha]
 unfold bodyI
 have mid : ∀ (hw : k + 1 < m_3.length ∨ m_6 ≠ 0) (ha0 : 0 < a),
   (bif inB (IntKind.i64.wrap ((a : Int) - 1)) (Option.getD (some Y) []).length then
    bif ((Option.getD (some Y) []).getD (IntKind.i64.wrap ((a : Int) - 1)).toNat TShape.z).gState != 1 then some (false, (m, (m_1, (m_2, (m_3, (m_4, (m_5, (m_6, (m_7, (m_8, (m_9, (m_10, (m_11, (m_12, m_13)))))))))))))) else
    bif inB (IntKind.i64.wrap ((a : Int) - 1)) c.gFns[fi].gIns.length then
     bif decide ((k : Int) < ((m_3.length - 1 : Nat) : Int)) then
      bif inB (IntKind.i64.wrap ((k : Int) + 1)) m_3.length then
       bif (m_3.getD (IntKind.i64.wrap ((k : Int) + 1)).toNat TFrame.z).gCode == f.gCode then
        bif (c.gFns[fi].gIns.getD (IntKind.i64.wrap ((a : Int) - 1)).toNat TIns.z).gOp != 9 then some (false, (m, (m_1, (m_2, (m_3, (m_4, (m_5, (m_6, (m_7, (m_8, (m_9, (m_10, (m_11, (m_12, m_13)))))))))))))) else
        bif inB (IntKind.i64.wrap ((k : Int) + 1)) m_3.length then
         bif (c.gFns[fi].gIns.getD (IntKind.i64.wrap ((a : Int) - 1)).toNat TIns.z).gA != (m_3.getD (IntKind.i64.wrap ((k : Int) + 1)).toNat TFrame.z).gFn then some (false, (m, (m_1, (m_2, (m_3, (m_4, (m_5, (m_6, (m_7, (m_8, (m_9, (m_10, (m_11, (m_12, m_13)))))))))))))) else
         bif inB (c.gFns[fi].gIns.getD (IntKind.i64.wrap ((a : Int) - 1)).toNat TIns.z).gA c.gFns.length then
          bif (c.gFns.getD (c.gFns[fi].gIns.getD (IntKind.i64.wrap ((a : Int) - 1)).toNat TIns.z).gA.toNat TFn.z).gResult == 0 then
           I.Machine_framesOk.l32821247 (m_3.length : Int) known (some Y) 0 t46 t47 t48 f c.gFns[fi] m m_1 m_2 m_3 m_4 m_5 m_6 m_7 m_8 m_9 m_10 m_11 m_12 m_13
          else I.Machine_framesOk.l32821247 (m_3.length : Int) known (some Y) 1 t46 t47 t48 f c.gFns[fi] m m_1 m_2 m_3 m_4 m_5 m_6 m_7 m_8 m_9 m_10 m_11 m_12 m_13
         else none
        else none
       else
       bif decide ((k : Int) < ((m_3.length - 1 : Nat) : Int)) then
        bif (c.gFns[fi].gIns.getD (IntKind.i64.wrap ((a : Int) - 1)).toNat TIns.z).gOp != 8 then some (false, (m, (m_1, (m_2, (m_3, (m_4, (m_5, (m_6, (m_7, (m_8, (m_9, (m_10, (m_11, (m_12, m_13)))))))))))))) else
        bif (c.gFns[fi].gIns.getD (IntKind.i64.wrap ((a : Int) - 1)).toNat TIns.z).gA != 4 then some (false, (m, (m_1, (m_2, (m_3, (m_4, (m_5, (m_6, (m_7, (m_8, (m_9, (m_10, (m_11, (m_12, m_13)))))))))))))) else
        I.Machine_framesOk.l32821247 (m_3.length : Int) known (some Y) 1 t46 t47 t48 f c.gFns[fi] m m_1 m_2 m_3 m_4 m_5 m_6 m_7 m_8 m_9 m_10 m_11 m_12 m_13
       else
       bif (c.gFns[fi].gIns.getD (IntKind.i64.wrap ((a : Int) - 1)).toNat TIns.z).gOp != 8 then some (false, (m, (m_1, (m_2, (m_3, (m_4, (m_5, (m_6, (m_7, (m_8, (m_9, (m_10, (m_11, (m_12, m_13)))))))))))))) else
       bif (c.gFns[fi].gIns.getD (IntKind.i64.wrap ((a : Int) - 1)).toNat TIns.z).gA != m_6 then some (false, (m, (m_1, (m_2, (m_3, (m_4, (m_5, (m_6, (m_7, (m_8, (m_9, (m_10, (m_11, (m_12, m_13)))))))))))))) else
       I.Machine_framesOk.l32821247 (m_3.length : Int) known (some Y) 1 t46 t47 t48 f c.gFns[fi] m m_1 m_2 m_3 m_4 m_5 m_6 m_7 m_8 m_9 m_10 m_11 m_12 m_13
      else none
     else
     bif decide ((k : Int) < ((m_3.length - 1 : Nat) : Int)) then
      bif (c.gFns[fi].gIns.getD (IntKind.i64.wrap ((a : Int) - 1)).toNat TIns.z).gOp != 8 then some (false, (m, (m_1, (m_2, (m_3, (m_4, (m_5, (m_6, (m_7, (m_8, (m_9, (m_10, (m_11, (m_12, m_13)))))))))))))) else
      bif (c.gFns[fi].gIns.getD (IntKind.i64.wrap ((a : Int) - 1)).toNat TIns.z).gA != 4 then some (false, (m, (m_1, (m_2, (m_3, (m_4, (m_5, (m_6, (m_7, (m_8, (m_9, (m_10, (m_11, (m_12, m_13)))))))))))))) else
      I.Machine_framesOk.l32821247 (m_3.length : Int) known (some Y) 1 t46 t47 t48 f c.gFns[fi] m m_1 m_2 m_3 m_4 m_5 m_6 m_7 m_8 m_9 m_10 m_11 m_12 m_13
     else
     bif (c.gFns[fi].gIns.getD (IntKind.i64.wrap ((a : Int) - 1)).toNat TIns.z).gOp != 8 then some (false, (m, (m_1, (m_2, (m_3, (m_4, (m_5, (m_6, (m_7, (m_8, (m_9, (m_10, (m_11, (m_12, m_13)))))))))))))) else
     bif (c.gFns[fi].gIns.getD (IntKind.i64.wrap ((a : Int) - 1)).toNat TIns.z).gA != m_6 then some (false, (m, (m_1, (m_2, (m_3, (m_4, (m_5, (m_6, (m_7, (m_8, (m_9, (m_10, (m_11, (m_12, m_13)))))))))))))) else
     I.Machine_framesOk.l32821247 (m_3.length : Int) known (some Y) 1 t46 t47 t48 f c.gFns[fi] m m_1 m_2 m_3 m_4 m_5 m_6 m_7 m_8 m_9 m_10 m_11 m_12 m_13
    else none
   else none) = bif (if (Y.getD (a - 1) none_).gState = 1 then (match lackI m_3 m_6 k f c (c.gFns[fi].gIns.getD (a - 1) TIns.z) with
   | none => false
   | some l => fits f c.gFns[fi] (Y.getD a none_) l) else false) then I.Machine_framesOk.l500 (m_3.length : Int) known t46 t47 (IntKind.i64.wrap (t48 + 1)) m m_1 m_2 m_3 m_4 m_5 m_6 m_7 m_8 m_9 m_10 m_11 m_12 m_13 else some (false, (m, (m_1, (m_2, (m_3, (m_4, (m_5, (m_6, (m_7, (m_8, (m_9, (m_10, (m_11, (m_12, m_13)))))))))))))) := fun hw ha0 => by
  have hx := is_at hf (show a - 1 < c.gFns[fi].gIns.length by omega)
  have hzY : Y.getD (a - 1) TShape.z = Y.getD (a - 1) none_ := rfl
  rw [hn] at fin
  rw [wi_pred ha0 (by omega), Option.getD_some, bif_t (inB_nat (show a - 1 < Y.length by omega)), Int.toNat_natCast, hzY, wi_succ (by omega), bif_t (inB_nat (show a - 1 < c.gFns[fi].gIns.length by omega)), Int.toNat_natCast]
  generalize c.gFns[fi].gIns.getD (a - 1) TIns.z = x at hx
  by_cases hs : (Y.getD (a - 1) none_).gState = 1
  ·rw [bif_f (b := (Y.getD (a - 1) none_).gState != 1) (nef hs), if_pos hs]
   unfold lackI
   by_cases hkn : k + 1 < m_3.length
   ·rw [decide_eq_true (show (k : Int) < ((m_3.length - 1 : Nat) : Int) by omega), cond_true, if_pos hkn, bif_t (inB_nat hkn), bif_t (inB_nat hkn), cond_true]
    by_cases he : (m_3.getD (k + 1) TFrame.z).gCode = f.gCode
    ·rw [bif_t (b := (m_3.getD (k + 1) TFrame.z).gCode == f.gCode) (eqt he), if_pos he]
     by_cases h9 : x.gOp = 9
     ·rw [bif_f (b := x.gOp != 9) (nef h9)]
      by_cases hA : x.gA = (m_3.getD (k + 1) TFrame.z).gFn
      ·rw [bif_f (b := x.gA != (m_3.getD (k + 1) TFrame.z).gFn) (nef hA), if_pos ⟨h9, hA⟩]
       have hin : 0 ≤ x.gA ∧ x.gA < c.gFns.length := by
        cases hx with
        | call A h => exact h
        | slot op A h h' => simp only at h9; omega
        | jump op A h h' => simp only at h9; omega
        | rest op h => simp only at h9; omega
        | _ => simp at h9
       rw [bif_t (b := inB x.gA c.gFns.length) (by simp [inB]; omega)]
       by_cases hr : (c.gFns.getD x.gA.toNat TFn.z).gResult = 0
       ·rw [bif_t (b := (c.gFns.getD x.gA.toNat TFn.z).gResult == 0) (eqt hr), if_pos hr]; exact fin 0 (.inl rfl)
       ·rw [bif_f (b := (c.gFns.getD x.gA.toNat TFn.z).gResult == 0) (eqf hr), if_neg hr]; exact fin 1 (.inr rfl)
      ·rw [bif_t (b := x.gA != (m_3.getD (k + 1) TFrame.z).gFn) (net hA), if_neg fun h => hA h.2]; rfl
     ·rw [bif_t (b := x.gOp != 9) (net h9), if_neg fun h => h9 h.1]; rfl
    ·rw [bif_f (b := (m_3.getD (k + 1) TFrame.z).gCode == f.gCode) (eqf he), if_neg he]
     by_cases h8 : x.gOp = 8
     ·rw [bif_f (b := x.gOp != 8) (nef h8)]
      by_cases h4 : x.gA = 4
      ·rw [bif_f (b := x.gA != 4) (nef h4), if_pos ⟨h8, h4⟩]; exact fin 1 (.inr rfl)
      ·rw [bif_t (b := x.gA != 4) (net h4), if_neg fun h => h4 h.2]; rfl
     ·rw [bif_t (b := x.gOp != 8) (net h8), if_neg fun h => h8 h.1]; rfl
   ·rw [decide_eq_false (show ¬ (k : Int) < ((m_3.length - 1 : Nat) : Int) by omega), cond_false, if_neg hkn, cond_false]
    by_cases h8 : x.gOp = 8
    ·rw [bif_f (b := x.gOp != 8) (nef h8)]
     by_cases h4 : x.gA = m_6
     ·rw [bif_f (b := x.gA != m_6) (nef h4), if_pos ⟨h8, h4⟩]; exact fin 1 (.inr rfl)
     ·rw [bif_t (b := x.gA != m_6) (net h4), if_neg fun h => h4 h.2]; rfl
    ·rw [bif_t (b := x.gOp != 8) (net h8), if_neg fun h => h8 h.1]; rfl
  ·rw [bif_t (b := (Y.getD (a - 1) none_).gState != 1) (net hs), if_neg hs]; rfl
 have az : ((a : Int) == 0) = decide (a = 0) := by by_cases h : a = 0 <;> simp [h]
 rw [az]
 by_cases hw : k + 1 < m_3.length ∨ m_6 ≠ 0
 ·rw [if_pos hw]
  by_cases h0 : a = 0
  ·rw [if_pos h0, decide_eq_true h0, cond_true]
   by_cases hkn : k + 1 < m_3.length
   ·rw [bif_t (b := decide ((k : Int) < ((m_3.length - 1 : Nat) : Int))) (decide_eq_true (by omega))]; rfl
   ·have h6 : m_6 ≠ 0 := hw.resolve_left hkn
    rw [bif_f (b := decide ((k : Int) < ((m_3.length - 1 : Nat) : Int))) (decide_eq_false (by omega)), bif_t (b := m_6 != 0) (net h6)]; rfl
  ·rw [if_neg h0, decide_eq_false h0, cond_false, mid hw (by omega)]
   by_cases hkn : k + 1 < m_3.length
   ·rw [bif_t (b := decide ((k : Int) < ((m_3.length - 1 : Nat) : Int))) (decide_eq_true (by omega))]
   ·have h6 : m_6 ≠ 0 := hw.resolve_left hkn
    rw [bif_f (b := decide ((k : Int) < ((m_3.length - 1 : Nat) : Int))) (decide_eq_false (by omega)), bif_t (b := m_6 != 0) (net h6)]
 ·rw [if_neg hw, bif_f (b := decide ((k : Int) < ((m_3.length - 1 : Nat) : Int))) (decide_eq_false (by omega)), bif_f (b := m_6 != 0) (by
   by_cases h : m_6 = 0
   ·simp [h]
   ·exact absurd (.inr h) hw)]
  rw [hn] at fin
  exact fin 0 (.inl rfl)
end
section
theorem bif_or {α : Type} (p q : Bool) (x z : α) : (bif p then x else bif q then x else z) = bif p || q then x else z := by cases p <;> cases q <;> rfl
def wantsR (fr : List TFrame) (kind : Int) (k : Nat) (f : TFrame) (c : TCode) (x : TIns) : Option Int :=
 if k + 1 < fr.length then
  (if (fr.getD (k + 1) TFrame.z).gCode = f.gCode then (if x.gOp = 9 ∧ x.gA = (fr.getD (k + 1) TFrame.z).gFn then some (c.gFns.getD x.gA.toNat TFn.z).gResult else none)
   else if x.gOp = 8 ∧ x.gA = 4 then some 2 else none)
 else if x.gOp = 8 ∧ (x.gA < 5 ∧ x.gA = kind) then some (gives x.gA) else none
def stk (f : TFrame) (want : List Int) : Bool := decide (f.gStack.length = want.length) && (f.gStack.zip want).all stackP
def waitR (f : TFrame) (s : TShape) : Option Int → Bool
 | none => false
 | some t => if t = 0 then stk f s.gStack else decide (s.gStack.length ≠ 0) && (decide (s.gStack.getD (s.gStack.length - 1) 0 = t) && stk f (s.gStack.take (s.gStack.length - 1)))
def bodyR (fr : List TFrame) (kind : Int) (k : Nat) (f : TFrame) (c : TCode) (g : TFn) (Y : List TShape) (a : Nat) : Bool :=
 decide ((f.gSlots.length : Int) = g.gSlots) && (decide ((Y.getD a none_).gState = 1) && ((f.gSlots.zip (Y.getD a none_).gSlots).all slotP &&
  (if k + 1 < fr.length ∨ kind ≠ 0 then
   (if a = 0 then false else if (Y.getD (a - 1) none_).gState = 1 then waitR f (Y.getD a none_) (wantsR fr kind k f c (g.gIns.getD (a - 1) TIns.z)) else false)
  else stk f (Y.getD a none_).gStack)))
theorem wants_total (op : Int) : ∃ ks g, R.l3Wants op = some (ks, g) := by
 rw [R.l3Wants_eq]
 repeat' (first | exact ⟨_, _, rfl⟩ | rw [R.l3Wants.l53_eq] | rw [R.l3Wants.l13823_eq] | (rw [bif_if]; split))
theorem R_kind (A : Int) : R.l9Kind A = some (if 1 ≤ A ∧ A ≤ 4 then A else 0) := by
 rw [R.l9Kind_eq]
 by_cases h1 : A = 1
 ·subst h1; rfl
 ·rw [bif_f (eqf h1)]
  by_cases h2 : A = 2
  ·subst h2; rfl
  ·rw [bif_f (eqf h2)]
   by_cases h3 : A = 3
   ·subst h3; rfl
   ·rw [bif_f (eqf h3)]
    by_cases h4 : A = 4
    ·subst h4; rfl
    ·rw [bif_f (eqf h4), if_neg (by omega)]
variable {c : TCode}
theorem R_wantsK (m : TMachine) {k : Nat} {f : TFrame} {g : TFn} {ci : Nat} {x : TIns} (hx : Is c g x) (hk : k < m.gFrames.length) (hf : m.gFrames.getD k TFrame.z = f) (hn : m.gFrames.length ≤ 40) (hci : f.gCode = (ci : Int)) (hcl : ci < m.gCodes.length) (hc : m.gCodes.getD ci TCode.z = c) :
  ∃ t b, R.l9Wants m k x = some (t, b) ∧ wantsR m.gFrames m.gKind k f c x = (if b = true then some t else none) := by
 rw [R.l9Wants_eq, bif_t (inB_nat hk), wi_pred (by omega) (by omega), wi_succ (by omega), Int.toNat_natCast, Int.toNat_natCast, hf, hci, Int.toNat_natCast, hc]
 unfold wantsR
 by_cases hkn : k + 1 < m.gFrames.length
 ·rw [bif_f (b := ((k : Int) == ((m.gFrames.length - 1 : Nat) : Int))) (eqf (by omega)), bif_t (inB_nat hkn), if_pos hkn, hci]
  by_cases he : (m.gFrames.getD (k + 1) TFrame.z).gCode = (ci : Int)
  ·rw [bif_f (b := (m.gFrames.getD (k + 1) TFrame.z).gCode != (ci : Int)) (nef he), if_pos he]
   by_cases h9 : x.gOp = 9
   ·rw [bif_f (b := x.gOp != 9) (nef h9)]
    by_cases hA : x.gA = (m.gFrames.getD (k + 1) TFrame.z).gFn
    ·rw [bif_f (b := x.gA != (m.gFrames.getD (k + 1) TFrame.z).gFn) (nef hA), if_pos ⟨h9, hA⟩, bif_t (inB_nat hcl)]
     have hin : 0 ≤ x.gA ∧ x.gA < c.gFns.length := by
      cases hx with
      | call A h => exact h
      | slot op A h h' => simp only at h9; omega
      | jump op A h h' => simp only at h9; omega
      | rest op h => simp only at h9; omega
      | _ => simp at h9
     rw [bif_t (b := inB x.gA c.gFns.length) (by simp [inB]; omega)]
     exact ⟨_, true, rfl, rfl⟩
    ·rw [bif_t (b := x.gA != (m.gFrames.getD (k + 1) TFrame.z).gFn) (net hA), if_neg fun h => hA h.2]; exact ⟨_, false, rfl, rfl⟩
   ·rw [bif_t (b := x.gOp != 9) (net h9), if_neg fun h => h9 h.1]; exact ⟨_, false, rfl, rfl⟩
  ·rw [bif_t (b := (m.gFrames.getD (k + 1) TFrame.z).gCode != (ci : Int)) (net he), if_neg he]
   by_cases h8 : x.gOp = 8
   ·rw [bif_t (b := x.gOp == 8) (eqt h8)]
    by_cases h4 : x.gA = 4
    ·rw [if_pos ⟨h8, h4⟩]; exact ⟨_, _, rfl, by simp [h4]⟩
    ·rw [if_neg fun h => h4 h.2]; exact ⟨_, _, rfl, by simp [h4]⟩
   ·rw [bif_f (b := x.gOp == 8) (eqf h8), if_neg fun h => h8 h.1]; exact ⟨_, false, rfl, rfl⟩
 ·rw [bif_t (b := ((k : Int) == ((m.gFrames.length - 1 : Nat) : Int))) (eqt (by omega)), if_neg hkn]
  by_cases h8 : x.gOp = 8
  ·have hA : 1 ≤ x.gA ∧ x.gA ≤ 12 := by
    cases hx with
    | built A h => exact h
    | slot op A h h' => simp only at h8; omega
    | jump op A h h' => simp only at h8; omega
    | rest op h => simp only at h8; omega
    | _ => simp at h8
   rw [R_wants x.gA hA.1 hA.2, Option.bind_some, bif_t (b := x.gOp == 8) (eqt h8)]
   by_cases h5 : x.gA < 5
   ·rw [bif_t (decide_eq_true h5), R_kind, if_pos (by omega), Option.bind_some]
    by_cases hq : x.gA = m.gKind
    ·rw [if_pos ⟨h8, h5, hq⟩]; exact ⟨_, _, rfl, by simp [hq]⟩
    ·rw [if_neg fun h => hq h.2.2]; exact ⟨_, _, rfl, by simp [hq]⟩
   ·rw [bif_f (decide_eq_false h5), if_neg fun h => h5 h.2.1]; exact ⟨_, false, rfl, rfl⟩
  ·obtain ⟨ks, q, hw⟩ := wants_total x.gA
   rw [hw, Option.bind_some, bif_f (b := x.gOp == 8) (eqf h8), if_neg fun h => h8 h.1]
   exact ⟨_, false, rfl, rfl⟩
theorem R_body (m : TMachine) {k : Nat} {f : TFrame} {ci fi : Nat} {Y : List TShape} (hk : k < m.gFrames.length) (hf : m.gFrames.getD k TFrame.z = f) (hn : m.gFrames.length ≤ 40) (hci : f.gCode = (ci : Int)) (hcl : ci < m.gCodes.length) (hc : m.gCodes.getD ci TCode.z = c)
  (hfn : f.gFn = (fi : Int)) (hfi : fi < c.gFns.length) (hF : FnOk c c.gFns[fi]) (hY : Shp c fi hfi Y) :
  (∀ a : Nat, f.gAt = (a : Int) → a < c.gFns[fi].gIns.length → R.l9FrameOk m k = some (bodyR m.gFrames m.gKind k f c c.gFns[fi] Y a)) ∧
  ((f.gAt < 0 ∨ (c.gFns[fi].gIns.length : Int) ≤ f.gAt) → R.l9FrameOk m k = some false) := by
 have h5 := hF.h.i5
 have h1 := hF.h.i1
 obtain ⟨hS1, hS2⟩ := slotsN hF
 have hW := hY.sol.wf
 have hYl : Y.length = c.gFns[fi].gIns.length := hW.1
 rw [R.l9FrameOk_eq, bif_t (inB_nat hk), Int.toNat_natCast, hf, hci, bif_t (inB_nat hcl), Int.toNat_natCast, hc, hfn, bif_t (inB_nat hfi), Int.toNat_natCast, getD_lt hfi, wi_pred (by omega) (by omega), R_in, Option.bind_some]
 refine ⟨fun a ha hal => ?_, fun h => ?_⟩
 ·rw [ha, decide_eq_true (show (0 : Int) ≤ (a : Int) by omega), decide_eq_true (show (a : Int) ≤ ((c.gFns[fi].gIns.length - 1 : Nat) : Int) by omega), bif_f (by rfl)]
  unfold bodyR
  by_cases e1 : (f.gSlots.length : Int) = c.gFns[fi].gSlots
  ·have hz : Y.getD a TShape.z = Y.getD a none_ := rfl
   rw [bif_f (nef e1), decide_eq_true e1, bif_t (inB_nat hcl), hY.r, Option.bind_some, bif_t (inB_nat (show a < Y.length by omega)), Int.toNat_natCast, hz]
   by_cases e2 : (Y.getD a none_).gState = 1
   ·rw [bif_f (nef e2), decide_eq_true e2, Bool.true_and, Bool.true_and]
    have hw := hW.2 a hal
    have hsl : f.gSlots.length = (Y.getD a none_).gSlots.length ∧ (Y.getD a none_).gStack.length ≤ 600 := by
     have gen : ∀ s : TShape, Wf (sy c c.gFns[fi]).S s → s.gState = 1 → f.gSlots.length = s.gSlots.length ∧ s.gStack.length ≤ 600 := fun s hw e2 => by
      cases hw with
      | no => simp [none_] at e2
      | bad => simp [bads] at e2
      | is sl st q1 q2 q3 q4 => simp only; omega
     exact gen _ hw e2
    rw [R_slots k Y m f c.gFns[fi] (Y.getD a none_) hsl.1 (by omega), R.l9FrameOk.l4084_eq, bif_f (b := decide ((f.gSlots.length : Int) < (f.gSlots.length : Int))) (by simp), wi_pred (by omega) (by omega), bif_or]
    cases (f.gSlots.zip (Y.getD a none_).gSlots).all slotP with
    | false => rfl
    | true =>
     rw [cond_true, Bool.true_and, ha]
     by_cases hw' : k + 1 < m.gFrames.length ∨ m.gKind ≠ 0
     ·rw [if_pos hw', bif_t (b := (decide ((k : Int) < ((m.gFrames.length - 1 : Nat) : Int)) || m.gKind != 0)) (by
       rcases hw' with h | h
       ·rw [decide_eq_true (by omega)]; rfl
       ·rw [net h]; simp)]
      by_cases h0 : a = 0
      ·rw [if_pos h0, bif_t (decide_eq_true (by omega))]
      ·have hx := is_at hF (show a - 1 < c.gFns[fi].gIns.length by omega)
       have hz1 : Y.getD (a - 1) TShape.z = Y.getD (a - 1) none_ := rfl
       rw [if_neg h0, bif_f (b := decide ((a : Int) < 1)) (decide_eq_false (by omega)), wi_pred (by omega) (by omega), bif_t (inB_nat (show a - 1 < Y.length by omega)), Int.toNat_natCast, hz1]
       by_cases hs : (Y.getD (a - 1) none_).gState = 1
       ·rw [bif_f (b := (Y.getD (a - 1) none_).gState != 1) (nef hs), if_pos hs, bif_t (inB_nat (show a - 1 < c.gFns[fi].gIns.length by omega))]
        obtain ⟨t, b, w1, w2⟩ := R_wantsK m hx hk hf hn hci hcl hc
        rw [w1, Option.bind_some, w2]
        cases b with
        | false => rfl
        | true =>
         rw [bif_f (by rfl), if_pos rfl]
         show (bif t != 0 then _ else _) = some (if t = 0 then _ else _)
         by_cases ht : t = 0
         ·rw [bif_f (b := t != 0) (nef ht), if_pos ht, R_stack _ f (by omega)]; rfl
         ·rw [bif_t (b := t != 0) (net ht), if_neg ht]
          by_cases hl : (Y.getD a none_).gStack.length = 0
          ·rw [bif_t (b := (((Y.getD a none_).gStack.length : Int) == 0)) (eqt (by omega)), decide_eq_false (fun h => h hl)]; rfl
          ·rw [bif_f (b := (((Y.getD a none_).gStack.length : Int) == 0)) (eqf (by omega)), decide_eq_true hl, wi_pred (by omega) (by omega), bif_t (inB_nat (show (Y.getD a none_).gStack.length - 1 < (Y.getD a none_).gStack.length by omega)), Int.toNat_natCast]
           by_cases hq : (Y.getD a none_).gStack.getD ((Y.getD a none_).gStack.length - 1) 0 = t
           ·rw [bif_f (b := (Y.getD a none_).gStack.getD ((Y.getD a none_).gStack.length - 1) 0 != t) (nef hq), decide_eq_true hq, bif_t (b := inS 0 (((Y.getD a none_).gStack.length - 1 : Nat) : Int) (Y.getD a none_).gStack.length) (inS_iff.2 ⟨by omega, by omega, by omega⟩)]
            have : sub (Y.getD a none_).gStack 0 (((Y.getD a none_).gStack.length - 1 : Nat) : Int) = (Y.getD a none_).gStack.take ((Y.getD a none_).gStack.length - 1) := by simp [sub]
            rw [this, R_stack _ f (by rw [List.length_take]; omega)]
            rfl
           ·rw [bif_t (b := (Y.getD a none_).gStack.getD ((Y.getD a none_).gStack.length - 1) 0 != t) (net hq), decide_eq_false hq]; rfl
       ·rw [bif_t (b := (Y.getD (a - 1) none_).gState != 1) (net hs), if_neg hs]
     ·rw [if_neg hw', bif_f (b := (decide ((k : Int) < ((m.gFrames.length - 1 : Nat) : Int)) || m.gKind != 0)) (by
       rw [decide_eq_false (by omega)]
       by_cases h : m.gKind = 0
       ·rw [nef h]; rfl
       ·exact absurd (.inr h) hw'), R_stack _ f (by omega)]
      rfl
   ·rw [bif_t (net e2), decide_eq_false e2]; rfl
  ·rw [bif_t (net e1), decide_eq_false e1]; rfl
 ·rw [bif_t (by
   rcases h with h | h
   ·rw [decide_eq_false (show ¬ (0 : Int) ≤ f.gAt by omega)]; rfl
   ·rw [decide_eq_false (show ¬ f.gAt ≤ ((c.gFns[fi].gIns.length - 1 : Nat) : Int) by omega)]; simp)]
end
section
variable {c : TCode}
theorem gives_ne (A : Int) : gives A ≠ 0 := by
 unfold gives
 repeat' split
 all_goals decide
theorem top_at {fi : Nat} {hfi : fi < c.gFns.length} {Y : List TShape} (hF : FnOk c c.gFns[fi]) (hY : Shp c fi hfi Y) {a : Nat} (h0 : 0 < a) (hal : a < c.gFns[fi].gIns.length) (hs : (Y.getD (a - 1) none_).gState = 1) (hs' : (Y.getD a none_).gState = 1) {t : Int}
  (hx : ((c.gFns[fi].gIns.getD (a - 1) TIns.z).gOp = 9 ∧ t = (c.gFns.getD (c.gFns[fi].gIns.getD (a - 1) TIns.z).gA.toNat TFn.z).gResult ∧ t ≠ 0) ∨ ((c.gFns[fi].gIns.getD (a - 1) TIns.z).gOp = 8 ∧ t = gives (c.gFns[fi].gIns.getD (a - 1) TIns.z).gA)) :
  ∃ l : List Int, (Y.getD a none_).gStack = l ++ [t] := by
 have hb := hY.st (a - 1) (by omega) (by rw [hs]; decide)
 have hle := hY.sol.at_ (a - 1) (show a - 1 < c.gFns[fi].gIns.length by omega) (by rw [hs]; decide) a (by
  show a ∈ gos c.gFns[fi] (a - 1)
  unfold gos goz
  rw [if_neg (by rcases hx with h | h <;> omega), if_neg (by rcases hx with h | h <;> omega), if_neg (by rcases hx with h | h <;> omega)]
  simp; omega) hal
 have hle : Le (bhF c c.gFns[fi] (a - 1) (Y.getD (a - 1) none_)) (Y.getD a none_) := hle
 have hst : (bhF c c.gFns[fi] (a - 1) (Y.getD (a - 1) none_)).gStack = (Y.getD a none_).gStack := by
  revert hb hs' hle
  generalize bhF c c.gFns[fi] (a - 1) (Y.getD (a - 1) none_) = p
  generalize Y.getD a none_ = q
  intro hs' hb hle
  cases hle with
  | no => exact absurd hb (by decide)
  | bad => exact absurd hs' (by decide)
  | is => rfl
 rw [← hst]
 unfold bhF at hb ⊢
 rw [if_pos hs] at hb ⊢
 cases he : eff c c.gFns[fi] (a - 1) (Y.getD (a - 1) none_).gSlots (Y.getD (a - 1) none_).gStack with
 | none => rw [he] at hb; simp [bads] at hb
 | some o =>
  rw [Option.getD_some]
  unfold eff at he
  split at he
  ·simp at he
  ·rename_i k ps hg
   split at he
   ·simp at he
   ·split at he
    ·simp at he
    ·simp only [Option.some.injEq] at he
     subst he
     simp only
     suffices hps : ps = [t] by rw [hps]; exact ⟨_, rfl⟩
     unfold gv at hg
     generalize c.gFns[fi].gIns.getD (a - 1) TIns.z = x at hg hx
     rcases hx with ⟨h9, ht, ht0⟩ | ⟨h8, ht⟩
     ·rw [if_neg (by omega), if_neg (by omega), if_neg (by omega), if_neg (by omega), if_neg (by omega), if_neg (by omega), if_neg (by omega), if_pos h9] at hg
      split at hg
      ·simp only [Option.some.injEq, Prod.mk.injEq] at hg
       rw [← hg.2, ← ht, if_neg ht0]
      ·simp at hg
     ·rw [if_neg (by omega), if_neg (by omega), if_neg (by omega), if_neg (by omega), if_neg (by omega), if_neg (by omega), if_pos h8] at hg
      split at hg
      ·rename_i hbt
       simp only [Option.some.injEq, Prod.mk.injEq] at hg
       rw [← hg.2, ht]
       congr 1
       have hbt := hbt.2
       unfold btT at hbt ⊢
       split
       ·rfl
       ·rename_i hh; exact absurd (if_neg hh) hbt
      ·simp at hg
theorem lack_wants (fr : List TFrame) (kind : Int) (k : Nat) (f : TFrame) (x : TIns) (hk : kind ≤ 4) (hw : k + 1 < fr.length ∨ kind ≠ 0) :
  (lackI fr kind k f c x = none ∧ wantsR fr kind k f c x = none) ∨
  ∃ t : Int, wantsR fr kind k f c x = some t ∧ lackI fr kind k f c x = some (if t = 0 then 0 else 1) ∧ ((x.gOp = 9 ∧ t = (c.gFns.getD x.gA.toNat TFn.z).gResult) ∨ (x.gOp = 8 ∧ t = gives x.gA)) := by
 unfold lackI wantsR
 by_cases hkn : k + 1 < fr.length
 ·rw [if_pos hkn, if_pos hkn]
  by_cases he : (fr.getD (k + 1) TFrame.z).gCode = f.gCode
  ·rw [if_pos he, if_pos he]
   by_cases h9 : x.gOp = 9 ∧ x.gA = (fr.getD (k + 1) TFrame.z).gFn
   ·rw [if_pos h9, if_pos h9]; exact .inr ⟨_, rfl, rfl, .inl ⟨h9.1, rfl⟩⟩
   ·rw [if_neg h9, if_neg h9]; exact .inl ⟨rfl, rfl⟩
  ·rw [if_neg he, if_neg he]
   by_cases h8 : x.gOp = 8 ∧ x.gA = 4
   ·rw [if_pos h8, if_pos h8]; exact .inr ⟨2, rfl, rfl, .inr ⟨h8.1, by rw [h8.2]; rfl⟩⟩
   ·rw [if_neg h8, if_neg h8]; exact .inl ⟨rfl, rfl⟩
 ·rw [if_neg hkn, if_neg hkn]
  by_cases h8 : x.gOp = 8 ∧ x.gA = kind
  ·rw [if_pos h8, if_pos ⟨h8.1, by omega, h8.2⟩]; exact .inr ⟨_, rfl, by rw [if_neg (gives_ne _)], .inr ⟨h8.1, rfl⟩⟩
  ·rw [if_neg h8, if_neg (fun h => h8 ⟨h.1, h.2.2⟩)]; exact .inl ⟨rfl, rfl⟩
theorem zip_take {α β : Type} (l : List α) : ∀ (l' : List β) (n : Nat), l.length ≤ n → l.zip (l'.take n) = l.zip l' := by
 induction l with
 | nil => intro l' n _; simp
 | cons x l ih =>
  intro l' n h
  cases l' with
  | nil => simp
  | cons y l' =>
   cases n with
   | zero => simp at h
   | succ n => simp only [List.take_succ_cons, List.zip_cons_cons]; rw [ih l' n (by simpa using h)]
theorem body_same {fi : Nat} {hfi : fi < c.gFns.length} {Y : List TShape} (hF : FnOk c c.gFns[fi]) (hY : Shp c fi hfi Y) {a : Nat} (hal : a < c.gFns[fi].gIns.length) (fr : List TFrame) (kind : Int) (k : Nat) (f : TFrame) (hk : kind ≤ 4) :
  bodyI fr kind k f c c.gFns[fi] Y a = bodyR fr kind k f c c.gFns[fi] Y a := by
 have plain : fits f c.gFns[fi] (Y.getD a none_) 0 = (decide ((f.gSlots.length : Int) = c.gFns[fi].gSlots) && (decide ((Y.getD a none_).gState = 1) && ((f.gSlots.zip (Y.getD a none_).gSlots).all slotP && stk f (Y.getD a none_).gStack))) := by
  unfold fits stk
  have : decide ((f.gStack.length : Int) = ((Y.getD a none_).gStack.length : Int) - 0) = decide (f.gStack.length = (Y.getD a none_).gStack.length) := by
   apply decide_eq_decide.2; omega
  rw [this]
  generalize decide ((Y.getD a none_).gState = 1) = p1
  generalize decide ((f.gSlots.length : Int) = c.gFns[fi].gSlots) = p2
  generalize decide (f.gStack.length = (Y.getD a none_).gStack.length) = p3
  generalize (f.gSlots.zip (Y.getD a none_).gSlots).all slotP = p4
  cases p1 <;> cases p2 <;> cases p3 <;> cases p4 <;> rfl
 unfold bodyI bodyR
 by_cases hw : k + 1 < fr.length ∨ kind ≠ 0
 ·rw [if_pos hw, if_pos hw]
  by_cases h0 : a = 0
  ·rw [if_pos h0, if_pos h0]; simp
  ·rw [if_neg h0, if_neg h0]
   by_cases hs : (Y.getD (a - 1) none_).gState = 1
   ·rw [if_pos hs, if_pos hs]
    rcases lack_wants (c := c) fr kind k f (c.gFns[fi].gIns.getD (a - 1) TIns.z) hk hw with ⟨h1, h2⟩ | ⟨t, h1, h2, h3⟩
    ·rw [h1, h2]; simp [waitR]
    ·rw [h1, h2]
     by_cases ht : t = 0
     ·rw [if_pos ht]
      simp only [waitR, if_pos ht]
      exact plain
     ·rw [if_neg ht]
      simp only [waitR, if_neg ht]
      by_cases hs' : (Y.getD a none_).gState = 1
      ·obtain ⟨l, hl⟩ := top_at hF hY (by omega) hal hs hs' (t := t) (by
        rcases h3 with ⟨h3, h4⟩ | ⟨h3, h4⟩
        ·exact .inl ⟨h3, h4, ht⟩
        ·exact .inr ⟨h3, h4⟩)
       have e1 : decide ((Y.getD a none_).gStack.length ≠ 0) = true := by rw [hl]; simp
       have e2 : decide ((Y.getD a none_).gStack.getD ((Y.getD a none_).gStack.length - 1) 0 = t) = true := by rw [hl]; simp
       rw [e1, e2]
       unfold fits stk
       have e3 : decide ((f.gStack.length : Int) = ((Y.getD a none_).gStack.length : Int) - 1) = decide (f.gStack.length = ((Y.getD a none_).gStack.take ((Y.getD a none_).gStack.length - 1)).length) := by
        apply decide_eq_decide.2
        rw [List.length_take, hl, List.length_append, List.length_singleton]
        omega
       rw [e3]
       by_cases e4 : f.gStack.length = ((Y.getD a none_).gStack.take ((Y.getD a none_).gStack.length - 1)).length
       ·rw [decide_eq_true e4, zip_take f.gStack (Y.getD a none_).gStack ((Y.getD a none_).gStack.length - 1) (by rw [List.length_take] at e4; omega), decide_eq_true hs']
        generalize decide ((f.gSlots.length : Int) = c.gFns[fi].gSlots) = p2
        generalize (f.gSlots.zip (Y.getD a none_).gSlots).all slotP = p4
        cases p2 <;> cases p4 <;> rfl
       ·rw [decide_eq_false e4]; simp
      ·unfold fits
       rw [decide_eq_false hs']; simp
   ·rw [if_neg hs, if_neg hs]; simp
 ·rw [if_neg hw, if_neg hw, plain]
end
end Go.KM.M1
