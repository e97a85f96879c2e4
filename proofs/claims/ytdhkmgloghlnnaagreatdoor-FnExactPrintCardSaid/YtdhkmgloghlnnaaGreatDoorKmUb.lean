/- Drawn regions whose operations commute as they are: the text's order serves every order. Conditions: none. -/
import Derived.Test.YtdhkmgloghlnnaaGreatDoorKmTt
import Derived.Orders
namespace Go.KM
open Go
open Fam (Dn dflt)
open Enc (cells sz mkE glob gany u8)
set_option autoImplicit false
set_option linter.unusedVariables false
set_option linter.unusedSimpArgs false
set_option linter.unusedSectionVars false
section
variable [Enc] {xb : Bool} {d nt : Nat} {e : Option Nat} {S : St} {g g' g0 : G} {a : Act} {w w' w0 : World} {P : Program} {m0 : Nat} {F : Fx} {C : CTab}
theorem stp1_quiet {F : Fx} (hT : TabOk P F.T) (hF : ∀ t z, F.T.flat t = some z → FlatOk P t z) {t : Nat} {S' : St} {o : Oper} (ht : t < nt) (h : Rel d nt e S g a w) (ho : stp1 F o.op t S = some (true, S')) (hq : quietOp o.op = true) :
    RanQ d nt e S.mm.length S' g a w t ((execOp a.eval o).run P w) := by
  have yes_ : ∀ {X : Option St}, yes t X = some (true, S') → X = some S' := fun {X} hX => by
    cases X with
    | none => simp [yes] at hX
    | some y => simpa [yes] using hX
  unfold stp1 at ho
  split at ho
  case h_1 x hop =>
    cases hz : isFrz (F.md t) with
    | true => rw [hz] at ho; exact opFrz_ran ht h (yes_ ho) (by simp [execOp, hop])
    | false => rw [hz] at ho; exact opMove_ran ht h (yes_ ho) hop
  case h_4 T x hop => exact load_ran hT ht h (yes_ ho) hop
  case h_9 T x f hop => exact fieldAddr_ran hT ht h (yes_ ho) hop
  case h_10 T x i hop => exact indexAddr_ran hT ht h ho hop
  case h_12 T x lo hi hop => exact sliceD_ran hT ht h ho hop
  case h_13 op T x y yt hop =>
    split at ho
    · rename_i b hc hx
      split at ho
      case h_2 => simp at ho
      rename_i hK
      simp only [Option.map_eq_some_iff, Prod.mk.injEq, Prod.exists] at ho
      obtain ⟨c, r, hb, rfl, rfl⟩ := ho
      exact ifc_ran hT ht h hc hx hK hb hop
    · split at ho
      · rename_i p q hx hy
        simp only [Option.map_eq_some_iff, Prod.mk.injEq, Prod.exists] at ho
        obtain ⟨c, r, hb, rfl, rfl⟩ := ho
        exact bin_ran hT hF ht h hx hy hb hop
      · simp at ho
  case h_17 x hop =>
    split at ho
    · simp at ho
    · split at ho
      · rename_i b off hx
        simp only [Option.some.injEq, Prod.mk.injEq, true_and] at ho
        subst ho
        refine ran_valQ h ht (v := a.eval x) ?_ (opv_dup h hx (by cases b <;> rfl) _)
        rw [eval_ad h hx]
        simp [execOp, hop, eval_ad h hx]
      · rename_i U y off hx
        simp only [Option.some.injEq, Prod.mk.injEq, true_and] at ho
        subst ho
        obtain ⟨bk, o', C, h1, _⟩ := eval_fa h hx
        refine ran_valQ h ht (v := a.eval x) ?_ (opv_dup h hx rfl _)
        rw [h1]
        simp [execOp, hop, h1]
      · rename_i U y hx
        simp only [Option.some.injEq, Prod.mk.injEq] at ho
        obtain ⟨hy, rfl⟩ := ho
        cases y with
        | none => simp at hy
        | some y =>
          have h5 : RepF g (.fp U (some y)) (a.eval x) := opv_dup h hx rfl (fun _ => .obj)
          have h6 : RepF g (.fa U y 0) (a.eval x) := by
            generalize a.eval x = v at h5
            cases h5 with
            | fpS _ _ _ h6 => exact h6
          obtain ⟨bk, o', C, h1, _⟩ := repF_fa h6
          refine ran_valQ h ht (v := a.eval x) ?_ h6
          rw [h1]
          simp [execOp, hop, h1]
      · simp at ho
  case h_19 args tys hop =>
    split at ho
    · rename_i x T ha hty
      exact len_ran hT ht h (yes_ ho) hop ha hty
    · simp at ho
  all_goals first
    | (simp at ho; done)
    | (rename_i hop; rw [hop] at hq; simp [quietOp] at hq; done)
end
section
variable {P : Program} {ops : Array Oper}
def wpT (P : Program) (o : Oper) (a : Act) (w : World) (K : Act → World → Prop) : Prop :=
  ∃ nx w', (execOp a.eval o).run P w = .ok nx w' ∧ (quietOp o.op = true → w' = w ∧ ∃ v, nx = .value v) ∧ o.upon P a K (fun _ _ _ => False) (.ok nx w')
def opT (P : Program) (ops : Array Oper) (i : Nat) (K : Act → World → Prop) (a : Act) (w : World) : Prop :=
  match ops[i]? with
  | none => K a w
  | some o => if Region.wanted o (yielded ops a.tmps) then wpT P o a w K else K (a.put o.dst undef) w
def opsT (P : Program) (ops : Array Oper) (N : Act → World → Prop) : List Nat → Act → World → Prop
  | [], a, w => N a w
  | i :: r, a, w => opT P ops i (opsT P ops N r) a w
def anyT (P : Program) (ops : Array Oper) (N : Act → World → Prop) : Nat → Array Bool → Act → World → Prop
  | 0, listed, a, w => Region.ready .any ops listed = [] ∧ N a w
  | fuel + 1, listed, a, w => (Region.ready .any ops listed = [] → N a w) ∧ ∀ i ∈ Region.ready .any ops listed, opT P ops i (anyT P ops N fuel (listed.setIfInBounds i true)) a w
theorem noLets : ¬ LetsOut (fun _ _ _ => False) := fun ⟨_, _, h⟩ => h
theorem upon_mono {o : Oper} {a : Act} {K K' : Act → World → Prop} {Q : Exit → Act → World → Prop} (h : ∀ a w, K a w → K' a w) {r : Result Next} (hh : o.upon P a K (fun _ _ _ => False) r) : o.upon P a K' Q r := by
  cases r with
  | ok n w' =>
    cases n <;> simp only [Oper.upon] at hh ⊢ <;>
      first
        | exact h _ _ hh
        | exact Calls.mono hh (fun e w'' he => by cases e <;> first | exact h _ _ he | exact he.elim | exact (noLets he).elim)
        | exact Rows.mono hh (fun _ _ he => h _ _ he)
  | halt x w' => cases x <;> simp only [Oper.upon] at hh ⊢ <;> exact hh.elim
theorem opT_mono {i : Nat} {K K' : Act → World → Prop} (h : ∀ a w, K a w → K' a w) {a : Act} {w : World} (hh : opT P ops i K a w) : opT P ops i K' a w := by
  unfold opT at *
  split at hh
  · exact h _ _ hh
  · split at hh
    · rename_i hw
      rw [if_pos hw]
      obtain ⟨nx, w', h1, h2, h3⟩ := hh
      exact ⟨nx, w', h1, h2, upon_mono h h3⟩
    · rename_i hw
      rw [if_neg hw]
      exact h _ _ hh
theorem opT_wp {N : Act → World → Prop} {i : Nat} {K K' : Act → World → Prop} {Q : Exit → Act → World → Prop} (h : ∀ a w, K a w → K' a w) {a : Act} {w : World} (hh : opT P ops i K a w) : wpOp P ops Q i K' a w := by
  unfold opT at hh
  unfold wpOp
  split at hh
  · rename_i ho; simp only [ho]; exact h _ _ hh
  · rename_i o ho
    simp only [ho]
    split at hh
    · rename_i hw
      rw [if_pos hw]
      obtain ⟨nx, w', h1, h2, h3⟩ := hh
      left
      unfold Oper.wp
      rw [h1]
      exact upon_mono h h3
    · rename_i hw
      rw [if_neg hw]
      exact h _ _ hh
theorem anyT_wp {N : Act → World → Prop} : ∀ (fuel : Nat) (listed : Array Bool) (a : Act) (w : World), anyT P ops N fuel listed a w → wpAny P .any ops (fun e a w => e = .normal ∧ N a w) fuel listed a w := by
  intro fuel
  induction fuel with
  | zero => exact fun listed a w h => ⟨h.1, rfl, h.2⟩
  | succ fuel ih => exact fun listed a w h => ⟨fun hr => ⟨rfl, h.1 hr⟩, fun i hi => opT_wp (N := N) (fun a w => ih _ a w) (h.2 i hi)⟩
theorem opT_put {j : Nat} {oj : Oper} {di : Option Tmp} {v : Value} (hj : ops[j]? = some oj) (h1 : ∀ d, di = some d → d ∉ oj.looksAt ops) (h2 : ∀ d, di = some d → oj.dst ≠ some d) (hs : ∀ cs b, oj.op ≠ .select cs b)
    {K : Act → World → Prop} {a : Act} {w : World} : opT P ops j K (a.put di v) w ↔ opT P ops j (fun a' w' => K (a'.put di v) w') a w := by
  unfold opT
  simp only [hj]
  rw [wanted_put oj a di v h1]
  split
  · unfold wpT
    rw [execOp_put oj hs a di v h1]
    have key : ∀ nx w', oj.upon P (a.put di v) K (fun _ _ _ => False) (.ok nx w') ↔ oj.upon P a (fun a' w' => K (a'.put di v) w') (fun _ _ _ => False) (.ok nx w') := by
      intro nx w'
      cases nx <;> simp only [Oper.upon]
      case value u => rw [Act.put_comm a v u h2]
      case skip => rw [Act.put_comm a v undef h2]
      case defer d => rw [Act.put_defers, Act.put_comm _ v undef h2]
      case enter f args =>
        constructor
        · intro h
          refine Calls.mono h fun e w'' he => ?_
          cases e with
          | returned u => have he : K ((a.put di v).put oj.dst u) w'' := he; rw [Act.put_comm a v u h2] at he; exact he
          | panicked c => exact he.elim
          | outgrown => exact (noLets he).elim
        · intro h
          refine Calls.mono h fun e w'' he => ?_
          cases e with
          | returned u => show K ((a.put di v).put oj.dst u) w''; rw [Act.put_comm a v u h2]; exact he
          | panicked c => exact he.elim
          | outgrown => exact (noLets he).elim
      case row row args =>
        constructor
        · exact fun h => Rows.mono h fun u w'' he => by rw [Act.put_comm a v u h2] at he; exact he
        · exact fun h => Rows.mono h fun u w'' he => by rw [Act.put_comm a v u h2]; exact he
    constructor
    · rintro ⟨nx, w', hr, hq, hu⟩; exact ⟨nx, w', hr, hq, (key nx w').1 hu⟩
    · rintro ⟨nx, w', hr, hq, hu⟩; exact ⟨nx, w', hr, hq, (key nx w').2 hu⟩
  · rw [Act.put_comm a v undef h2]
theorem yields_opT {i : Nat} {o : Oper} {v : Value} {a : Act} (hi : ops[i]? = some o) (hy : Yields P ops o v a) {K : Act → World → Prop} {w : World} : opT P ops i K a w ↔ K (a.put o.dst v) w := by
  unfold opT
  simp only [hi]
  rcases hy with ⟨hw, hv⟩ | ⟨hw, rfl⟩
  · rw [if_pos hw]
    unfold wpT
    constructor
    · rintro ⟨nx, w', hr, _, hu⟩
      rw [hv w] at hr
      cases hr
      exact hu
    · exact fun h => ⟨.value v, w, hv w, fun _ => ⟨rfl, v, rfl⟩, h⟩
  · rw [if_neg (by simp [hw])]
theorem opT_keep {i : Nat} {oi oj : Oper} {u : Value} (hi : ops[i]? = some oi) (h3 : ∀ d, oi.dst = some d → d ∉ oj.looksAt ops) (hsj : ∀ cs b, oj.op ≠ .select cs b) {K : Act → World → Prop} {a : Act} {w : World} (hy : Yields P ops oj u a) (h : opT P ops i K a w) :
    opT P ops i (fun a' w' => Yields P ops oj u a' ∧ K a' w') a w := by
  have keep : ∀ (a : Act), Yields P ops oj u a → ∀ x, Yields P ops oj u (a.put oi.dst x) := fun a hy x => hy.of_same (execOp_put oj hsj a oi.dst x h3) (wanted_put oj a oi.dst x h3)
  have keepD : ∀ d, Yields P ops oj u { a with defers := d :: a.defers } := fun d => hy.of_same rfl rfl
  unfold opT at *
  simp only [hi] at *
  split
  · rename_i hw
    rw [if_pos hw] at h
    obtain ⟨nx, w', hr, hq, hu⟩ := h
    refine ⟨nx, w', hr, hq, ?_⟩
    cases nx <;> simp only [Oper.upon] at hu ⊢
    case value x => exact ⟨keep a hy x, hu⟩
    case skip => exact ⟨keep a hy _, hu⟩
    case defer d => exact ⟨keep _ (keepD d) _, hu⟩
    case enter f args =>
      refine Calls.mono hu fun e w'' he => ?_
      cases e with
      | returned x => exact ⟨keep a hy x, he⟩
      | panicked c => exact he
      | outgrown => exact he
    case row row args => exact Rows.mono hu fun x w'' he => ⟨keep a hy x, he⟩
  · rename_i hw
    rw [if_neg hw] at h
    exact ⟨keep a hy _, h⟩
theorem pure_yields {o : Oper} (hp : pureOp o.op = true) (a : Act) : ∃ v, Yields P ops o v a := by
  cases hw : Region.wanted o (yielded ops a.tmps) with
  | false => exact ⟨undef, .inr ⟨hw, rfl⟩⟩
  | true =>
    cases ho : o.op <;> simp [ho, pureOp] at hp
    · exact ⟨_, .inl ⟨hw, fun w => by simp only [execOp, ho]; rfl⟩⟩
    · exact ⟨_, .inl ⟨hw, fun w => by simp only [execOp, ho]; rfl⟩⟩
theorem opT_swap {i j : Nat} {oi oj : Oper} (hi : ops[i]? = some oi) (hj : ops[j]? = some oj) (hap : oi.apart ops oj = true) (hc : pureOp oi.op = true ∨ pureOp oj.op = true ∨ (quietOp oi.op = true ∧ quietOp oj.op = true))
    (hsi : ∀ cs b, oi.op ≠ .select cs b) (hsj : ∀ cs b, oj.op ≠ .select cs b) {K : Act → World → Prop} {a : Act} {w : World} (h : opT P ops i (fun a w => opT P ops j K a w) a w) : opT P ops j (fun a w => opT P ops i K a w) a w := by
  obtain ⟨h1, h2, h3⟩ := Oper.apart_spec hap
  have h2' : ∀ d, oj.dst = some d → oi.dst ≠ some d := fun d hd hh => h2 d hh hd
  have caseI : ∀ v, Yields P ops oi v a → opT P ops j (fun a w => opT P ops i K a w) a w := fun v hy => by
    rw [yields_opT hi hy, opT_put hj h1 h2 hsj] at h
    exact opT_mono (fun a' w' ⟨h4, h5⟩ => (yields_opT hi h4).2 h5) (opT_keep hj h3 hsi hy h)
  have caseJ : ∀ u, Yields P ops oj u a → opT P ops j (fun a w => opT P ops i K a w) a w := fun u hy => by
    have h4 := opT_keep hi h1 hsj hy h
    have h5 : opT P ops i (fun a' w' => K (a'.put oj.dst u) w') a w := opT_mono (fun a' w' ⟨h6, h7⟩ => (yields_opT hj h6).1 h7) h4
    rw [yields_opT hj hy, opT_put hi h3 h2' hsi]
    exact h5
  rcases hc with hp | hp | ⟨hq, hq'⟩
  · obtain ⟨v, hy⟩ := pure_yields (P := P) (ops := ops) hp a
    exact caseI v hy
  · obtain ⟨v, hy⟩ := pure_yields (P := P) (ops := ops) hp a
    exact caseJ v hy
  · cases hwi : Region.wanted oi (yielded ops a.tmps) with
    | false => exact caseI undef (.inr ⟨hwi, rfl⟩)
    | true =>
      cases hwj : Region.wanted oj (yielded ops a.tmps) with
      | false => exact caseJ undef (.inr ⟨hwj, rfl⟩)
      | true =>
        unfold opT at h
        simp only [hi] at h
        rw [if_pos hwi] at h
        obtain ⟨nx, w', hr, hqq, hu⟩ := h
        obtain ⟨rfl, v, rfl⟩ := hqq hq
        have hu : opT P ops j K (a.put oi.dst v) w' := hu
        rw [opT_put hj h1 h2 hsj] at hu
        unfold opT at hu
        simp only [hj] at hu
        rw [if_pos hwj] at hu
        obtain ⟨nx, w'', hr', hqq', hu⟩ := hu
        obtain ⟨rfl, u, rfl⟩ := hqq' hq'
        have hu : K ((a.put oj.dst u).put oi.dst v) w'' := hu
        unfold opT
        simp only [hj]
        rw [if_pos hwj]
        refine ⟨.value u, w'', hr', fun _ => ⟨rfl, u, rfl⟩, ?_⟩
        show opT P ops i K (a.put oj.dst u) w''
        unfold opT
        simp only [hi]
        rw [wanted_put oi a oj.dst u h3, if_pos hwi]
        refine ⟨.value v, w'', ?_, fun _ => ⟨rfl, v, rfl⟩, hu⟩
        rw [execOp_put oi hsi a oj.dst u h3]
        exact hr
def Closed (ops : Array Oper) (listed : Array Bool) : Prop := ∀ k, listed.getD k false = true → ∀ i, TE ops k i → listed.getD i false = true
theorem apart_symm {x y : Oper} (h : x.apart ops y = true) : y.apart ops x = true := by
  obtain ⟨h1, h2, h3⟩ := Oper.apart_spec h
  unfold Oper.apart
  simp only [Bool.and_eq_true]
  constructor
  · cases hd : y.dst with
    | none => rfl
    | some d =>
      have := h3 d hd
      simp only [Bool.and_eq_true, Bool.not_eq_true', bne_iff_ne, ne_eq]
      exact ⟨by simpa using this, fun hh => h2 d hh hd⟩
  · cases hd : x.dst with
    | none => rfl
    | some d =>
      have := h1 d hd
      simpa using this
theorem closed_ready {listed : Array Bool} (hc : Closed ops listed) {j : Nat} (hj : j ∈ Region.ready .any ops listed) {i : Nat} (h : TE ops j i) : listed.getD i false = true := by
  obtain ⟨_, o, ho, hall⟩ := mem_ready.1 hj
  cases h with
  | one h => obtain ⟨o', ho', ed, hed, hb, rfl⟩ := edge_spec.1 h; rw [ho] at ho'; cases ho'; exact hall ed hed hb
  | step h h' => obtain ⟨o', ho', ed, hed, hb, rfl⟩ := edge_spec.1 h; rw [ho] at ho'; cases ho'; exact hc _ (hall ed hed hb) _ h'
theorem closed_set {listed : Array Bool} (hc : Closed ops listed) {j : Nat} (hj : j ∈ Region.ready .any ops listed) : Closed ops (listed.setIfInBounds j true) := by
  intro k hk i h
  by_cases hkj : j = k
  · subst hkj; exact getD_set_true (closed_ready hc hj h)
  · rw [getD_set_ne false hkj] at hk; exact getD_set_true (hc k hk i h)
theorem any_first (hns : Region.noSelect ops = true) (hpair : ∀ i j oi oj, ops[i]? = some oi → ops[j]? = some oj → i ≠ j → TE ops i j ∨ TE ops j i ∨ commB ops oi oj = true) {N : Act → World → Prop} : ∀ (fuel : Nat) (listed : Array Bool) (a : Act) (w : World) (i : Nat), Closed ops listed → listed.size = ops.size →
    i ∈ Region.ready .any ops listed → opT P ops i (anyT P ops N fuel (listed.setIfInBounds i true)) a w → anyT P ops N (fuel + 1) listed a w := by
  intro fuel
  induction fuel with
  | zero =>
    intro listed a w i hc hsz hr H
    refine ⟨fun h => (by rw [h] at hr; cases hr), fun j hj => ?_⟩
    by_cases hji : j = i
    · subst hji; exact H
    · exfalso
      obtain ⟨_, oi, hoi, _⟩ := mem_ready.1 hr
      have hrj := ready_mono hj hji
      have key : ∀ a w, ¬ anyT P ops N 0 (listed.setIfInBounds i true) a w := fun a w h => by rw [h.1] at hrj; cases hrj
      have h1 : opT P ops i (fun _ _ => False) a w := opT_mono (fun a w h => key a w h) H
      unfold opT at h1
      simp only [hoi] at h1
      split at h1
      · obtain ⟨nx, w', _, _, hu⟩ := h1
        cases nx <;> simp only [Oper.upon] at hu
        case enter f args =>
          obtain ⟨en, wz, fr, hh, _⟩ := hu (default : List Frame)
          cases en with
          | returned v => exact hh
          | panicked c => exact hh
          | outgrown => exact noLets hh
        case row r args =>
          obtain ⟨_, _, hh, _⟩ := hu default []
          exact hh
      · exact h1
  | succ fuel ih =>
    intro listed a w i hc hsz hr H
    refine ⟨fun h => (by rw [h] at hr; cases hr), fun j hj => ?_⟩
    by_cases hji : j = i
    · subst hji; exact H
    · obtain ⟨huni, oi, hoi, _⟩ := mem_ready.1 hr
      obtain ⟨hunj, oj, hoj, _⟩ := mem_ready.1 hj
      have hlt : ∀ {k : Nat} {o : Oper}, ops[k]? = some o → k < listed.size := fun hk => by rw [hsz]; exact (Array.getElem?_eq_some_iff.1 hk).1
      have hno : ∀ {k : Nat} {o : Oper}, ops[k]? = some o → listed.getD k true = false → ¬ listed.getD k false = true := fun {k o} hk hun hh => by
        have := hlt hk
        simp [this] at hun hh
        rw [hun] at hh; cases hh
      have hcomm : commB ops oi oj = true := by
        rcases hpair i j oi oj hoi hoj (Ne.symm hji) with h | h | h
        · exact absurd (closed_ready hc hr h) (hno hoj hunj)
        · exact absurd (closed_ready hc hj h) (hno hoi huni)
        · exact h
      unfold commB at hcomm
      simp only [Bool.and_eq_true, Bool.or_eq_true, or_assoc] at hcomm
      have h1 : opT P ops i (fun a w => opT P ops j (anyT P ops N fuel ((listed.setIfInBounds i true).setIfInBounds j true)) a w) a w :=
        opT_mono (fun a w h => h.2 j (ready_mono hj hji)) H
      have h2 := opT_swap hoi hoj hcomm.1 hcomm.2 (Region.noSelect_spec hns i oi · · hoi) (Region.noSelect_spec hns j oj · · hoj) h1
      refine opT_mono (fun a' w' h3 => ih (listed.setIfInBounds j true) a' w' i (closed_set hc hj) (by simpa using hsz) (ready_mono hr (Ne.symm hji)) ?_) h2
      rw [Array.setIfInBounds_comm _ _ hji]
      exact h3
def upTo (n i : Nat) : Array Bool := ((List.range n).map fun k => decide (k < i)).toArray
theorem upTo_get (n i k : Nat) (z : Bool) : (upTo n i).getD k z = if k < n then decide (k < i) else z := by
  unfold upTo
  simp only [Array.getD_eq_getD_getElem?, List.getElem?_toArray, List.getElem?_map]
  by_cases h : k < n <;> simp [h]
theorem upTo_set (n i : Nat) (h : i < n) : (upTo n i).setIfInBounds i true = upTo n (i + 1) := by
  apply Array.ext_getElem?
  intro k
  unfold upTo
  simp only [Array.getElem?_setIfInBounds, List.getElem?_toArray, List.getElem?_map, List.size_toArray, List.length_map, List.length_range]
  by_cases hk : i = k
  · subst hk; simp [h]
  · rw [if_neg hk]
    by_cases hkn : k < n
    · simp only [List.getElem?_range hkn, Option.map_some, Option.some.injEq, decide_eq_decide]; omega
    · simp [hkn]
theorem any_text (hns : Region.noSelect ops = true) (hback : ∀ i j, edge ops i j = true → j < i) (hpair : ∀ i j oi oj, ops[i]? = some oi → ops[j]? = some oj → i ≠ j → TE ops i j ∨ TE ops j i ∨ commB ops oi oj = true) {N : Act → World → Prop} :
    ∀ (m i : Nat) (a : Act) (w : World), i + m = ops.size → opsT P ops N ((List.range ops.size).drop i) a w → anyT P ops N m (upTo ops.size i) a w := by
  have hte : ∀ k i, TE ops k i → i < k := by
    intro k i h
    induction h with
    | one h => exact hback _ _ h
    | step h _ ih => exact Nat.lt_trans ih (hback _ _ h)
  intro m
  induction m with
  | zero =>
    intro i a w hi h
    rw [List.drop_eq_nil_of_le (by simp; omega)] at h
    refine ⟨?_, h⟩
    apply List.filter_eq_nil_iff.2
    intro k hk
    rw [upTo_get, if_pos (List.mem_range.1 hk)]
    have := List.mem_range.1 hk
    simp; intro hh; omega
  | succ m ih =>
    intro i a w hi h
    have hlt : i < ops.size := by omega
    rw [List.drop_eq_getElem_cons (by simpa using hlt), List.getElem_range] at h
    have h : opT P ops i (opsT P ops N ((List.range ops.size).drop (i + 1))) a w := h
    have hc : Closed ops (upTo ops.size i) := fun k hk j hj => by
      rw [upTo_get] at hk ⊢
      have := hte k j hj
      split at hk
      · simp only [decide_eq_true_eq] at hk
        rw [if_pos (by omega)]; simp; omega
      · cases hk
    have hr : i ∈ Region.ready .any ops (upTo ops.size i) := by
      refine mem_ready.2 ⟨by rw [upTo_get, if_pos hlt]; simp, ops[i], Array.getElem?_eq_getElem hlt, fun ed hed hb => ?_⟩
      have h1 : ed.on < i := hback i ed.on (edge_spec.2 ⟨ops[i], Array.getElem?_eq_getElem hlt, ed, hed, hb, rfl⟩)
      rw [upTo_get, if_pos (by omega)]; simpa using h1
    refine any_first hns hpair m (upTo ops.size i) a w i hc (by simp [upTo]) hr ?_
    rw [upTo_set _ _ hlt]
    exact opT_mono (fun a w h => ih (i + 1) a w (by omega) h) h
end
section
variable [Enc] {xb : Bool} {d nt : Nat} {e : Option Nat} {S : St} {g g' g0 : G} {a : Act} {w w' w0 : World} {P : Program} {m0 : Nat} {F : Fx} {C : CTab} {ops : Array Oper}
theorem evOp_T {β : Type} {res : β} (hb : Base0 e m0 g0 w0) (hx : FxOk P F e nt xb) (hC : CTabOk P C) {K : St → Option β} (hi : Inv xb d nt e m0 g0 w0 S g a w) {o : Oper}
    (h : evOp F C o S K = some res) {N : Act → World → Prop} (next : ∀ S' g' a' w', K S' = some res → Inv xb d nt e m0 g0 w0 S' g' a' w' → N a' w') : wpT P o a w N := by
  have h1 : o.wp P a w N (fun _ _ _ => False) := evOp_ok hb hx hC hi h next
  unfold Oper.wp at h1
  cases hr : (execOp a.eval o).run P w with
  | halt x w' => rw [hr] at h1; cases x <;> simp [Oper.upon] at h1
  | ok nx w' =>
    rw [hr] at h1
    refine ⟨nx, w', hr, fun hq => ?_, h1⟩
    -- a reading operation
    have hnc : ∀ c : Call, o.op = .call c → (∃ b, c.callee = .builtin b) := fun c hc => by
      rw [hc] at hq
      obtain ⟨callee, args, tys⟩ := c
      cases callee with
      | builtin b => exact ⟨b, rfl⟩
      | _ => simp [quietOp] at hq
    unfold evOp at h
    split at h
    · rename_i f args tys hop; obtain ⟨b, hb⟩ := hnc _ hop; cases hb
    · rename_i t args tys hop; obtain ⟨b, hb⟩ := hnc _ hop; cases hb
    · split at h
      · rename_i c S1 hs
        cases c with
        | false =>
          simp only [cond_false] at h
          split at h
          · rename_i t ht
            obtain ⟨b, h2, _⟩ := amb_ran hx hi.rel ht
            rw [hr] at h2
            cases h2
            exact ⟨rfl, _, rfl⟩
          · simp at h
        | true =>
          unfold stp at hs
          split at hs
          · rename_i t hdst
            cases hbt : Nat.blt t F.nt with
            | false => simp [hbt] at hs
            | true =>
              simp only [hbt, cond_true] at hs
              simp only [Nat.blt_eq] at hbt
              obtain ⟨g', v, h2, _, _⟩ := stp1_quiet hx.T hx.flat (hx.nt ▸ hbt) hi.rel hs hq
              rw [hr] at h2
              cases h2
              exact ⟨rfl, v, rfl⟩
          · split at hs
            · rename_i T x v hop
              rw [hop] at hq; simp [quietOp] at hq
            · rename_i T m k x hop
              rw [hop] at hq; simp [quietOp] at hq
            · simp at hs
      · simp at h
theorem evOps_T {β : Type} {res : β} (hb : Base0 e m0 g0 w0) (hx : FxOk P F e nt xb) (hC : CTabOk P C) {K : St → Option β} {N : Act → World → Prop} :
    ∀ (r : List Oper) (l : List Nat) {S : St} {g : G} {a : Act} {w : World}, l.map (fun i => ops[i]?) = r.map some → Inv xb d nt e m0 g0 w0 S g a w → evOps F C ops r S K = some res →
      (∀ S' g' a' w', K S' = some res → Inv xb d nt e m0 g0 w0 S' g' a' w' → N a' w') → opsT P ops N l a w := by
  intro r
  induction r with
  | nil =>
    intro l S g a w hl hi h next
    cases l with
    | nil => exact next _ _ _ _ h hi
    | cons i l => simp at hl
  | cons o r ih =>
    intro l S g a w hl hi h next
    cases l with
    | nil => simp at hl
    | cons i l =>
      simp only [List.map_cons, List.cons.injEq] at hl
      obtain ⟨ho, hl⟩ := hl
      show opT P ops i (opsT P ops N l) a w
      unfold opT
      simp only [ho]
      have run : ∀ {S : St} {a : Act} {w : World} {g : G}, Inv xb d nt e m0 g0 w0 S g a w → (evOp F C o S fun S => evOps F C ops r (extD F o.dst S) K) = some res → wpT P o a w (opsT P ops N l) :=
        fun hi h => evOp_T hb hx hC hi h fun S' g' a' w' hk hi' => by
          obtain ⟨g'', hi''⟩ := hi'.extD hx hb o.dst
          exact ih l hl hi'' hk next
      have skip : ∀ {S : St}, Inv xb d nt e m0 g0 w0 S g a w → dstOk F o.dst = true → evOps F C ops r (setD S o.dst (.tup [])) K = some res → opsT P ops N l (a.put o.dst undef) w := by
        intro S hi hd h
        refine ih l hl (S := setD S o.dst (.tup [])) (g := g) ⟨?_, hi.ext, hi.va⟩ h next
        cases hdst : o.dst with
        | none => exact hi.rel
        | some t => exact hi.rel.setT (dstOk_lt hx.nt hd t hdst) ⟨#[], rfl, rfl, by simp⟩
      simp only [evOps] at h
      split at h
      · rename_i hg
        have : Region.wanted o (yielded ops a.tmps) = true := by simp [Region.wanted, hg]
        rw [if_pos this]
        exact run hi h
      · rename_i j want hg
        split at h
        · rename_i t c hgv
          rcases guardVal_ok hi.rel hgv with ⟨_, h1, h2⟩ | ⟨h1, _⟩
          · have hset : ∀ c', c' = c → Inv xb d nt e m0 g0 w0 (S.setT t (.b c')) g a w := fun c' hc => by
              subst hc
              obtain ⟨h3, h4⟩ := hi.rel.tm _ _ h1
              exact ⟨hi.rel.setT' h3 rfl rfl (fun _ _ => rfl) h4, hi.ext, hi.va⟩
            cases hd : dstOk F o.dst with
            | false => simp [hd] at h
            | true =>
              simp only [hd, cond_true] at h
              cases c with
              | true =>
                simp only [cond_true] at h
                cases want with
                | true =>
                  simp only [cond_true] at h
                  have : Region.wanted o (yielded ops a.tmps) = true := by simp [Region.wanted, hg, h2]
                  rw [if_pos this]
                  exact run (hset _ rfl) h
                | false =>
                  simp only [cond_false] at h
                  have : ¬ Region.wanted o (yielded ops a.tmps) = true := by simp [Region.wanted, hg, h2]
                  rw [if_neg this]
                  exact skip (hset _ rfl) hd h
              | false =>
                simp only [cond_false] at h
                cases want with
                | true =>
                  simp only [cond_true] at h
                  have : ¬ Region.wanted o (yielded ops a.tmps) = true := by simp [Region.wanted, hg, h2]
                  rw [if_neg this]
                  exact skip (hset _ rfl) hd h
                | false =>
                  simp only [cond_false] at h
                  have : Region.wanted o (yielded ops a.tmps) = true := by simp [Region.wanted, hg, h2]
                  rw [if_pos this]
                  exact run (hset _ rfl) h
          · simp at h1
        · rename_i t q c hgv
          rcases guardVal_ok hi.rel hgv with ⟨h1, _⟩ | ⟨_, h2⟩
          · simp at h1
          · have : ¬ Region.wanted o (yielded ops a.tmps) = true := by simp [Region.wanted, hg, h2]
            rw [if_neg this]
            cases hd : dstOk F o.dst with
            | false => simp [hd] at h
            | true =>
              simp only [hd, cond_true] at h
              exact skip hi hd h
        · simp at h
theorem drawT_ok {β : Type} {res : β} (hb : Base0 e m0 g0 w0) (hx : FxOk P F e nt xb) (hC : CTabOk P C) (hmix : P.follows .mixedOrders = true) {K : St → Option β} (hck : drawT ops = true) {N : Act → World → Prop}
    (hi : Inv xb d nt e m0 g0 w0 S g a w) (h : evOps F C ops ops.toList S K = some res)
    (next : ∀ S' g' a' w', K S' = some res → Inv xb d nt e m0 g0 w0 S' g' a' w' → N a' w') (t : Nat) : wpOps P ops (fun e a w => e = .normal ∧ N a w) (Region.schedule (P.follows .mixedOrders) ops t) a w := by
  have hte := masksOf_te (ops := ops) ops.toList [] (fun k j hj => by simp at hj) (fun n o hn => by simpa using hn)
  unfold drawT at hck
  simp only [Bool.and_eq_true] at hck
  have hck2 := allB_iff hck.2
  have hback : ∀ i j, edge ops i j = true → j < i := by
    intro i j he
    obtain ⟨o, ho, ed, hed, hbd, rfl⟩ := edge_spec.1 he
    have h1 := hck2 i (Array.getElem?_eq_some_iff.1 ho).1
    simp only [ho, Bool.and_eq_true] at h1
    have h2 := List.all_eq_true.1 h1.1 ed (by simpa using hed)
    simpa [hbd] using h2
  have hlt : ∀ i j oi oj, ops[i]? = some oi → ops[j]? = some oj → j < i → TE ops i j ∨ commB ops oj oi = true := by
    intro i j oi oj hoi hoj hj
    have h1 := hck2 i (Array.getElem?_eq_some_iff.1 hoi).1
    simp only [hoi, Bool.and_eq_true] at h1
    have h2 := allB_iff h1.2 j hj
    simp only [hoj, Bool.or_eq_true] at h2
    exact h2.imp (hte _ _) id
  have hsym : ∀ {x y : Oper}, commB ops x y = true → commB ops y x = true := fun {x y} h => by
    unfold commB at *
    simp only [Bool.and_eq_true, Bool.or_eq_true] at h ⊢
    refine ⟨apart_symm h.1, ?_⟩
    rcases h.2 with (h1 | h1) | h1
    · exact .inl (.inr h1)
    · exact .inl (.inl h1)
    · exact .inr ⟨h1.2, h1.1⟩
  have hpair : ∀ i j oi oj, ops[i]? = some oi → ops[j]? = some oj → i ≠ j → TE ops i j ∨ TE ops j i ∨ commB ops oi oj = true := by
    intro i j oi oj hoi hoj hne
    rcases Nat.lt_or_gt_of_ne hne with h1 | h1
    · rcases hlt j i oj oi hoj hoi h1 with h2 | h2
      · exact .inr (.inl h2)
      · exact .inr (.inr h2)
    · rcases hlt i j oi oj hoi hoj h1 with h2 | h2
      · exact .inl h2
      · exact .inr (.inr (hsym h2))
  have hidx : (List.range ops.size).map (fun i => ops[i]?) = ops.toList.map some := by
    apply List.ext_getElem?
    intro i
    simp only [List.getElem?_map, Array.getElem?_toList]
    by_cases hi : i < ops.size <;> simp [hi]
  have h1 := evOps_T hb hx hC ops.toList (List.range ops.size) hidx hi h next
  have h2 := any_text hck.1 hback hpair (N := N) ops.size 0 a w (by omega) (by simpa using h1)
  have e0 : upTo ops.size 0 = Array.replicate ops.size false := by
    apply Array.ext_getElem?
    intro k
    unfold upTo
    simp only [List.getElem?_toArray, List.getElem?_map, Array.getElem?_replicate]
    by_cases hk : k < ops.size <;> simp [hk]
  rw [e0] at h2
  simp only [Region.schedule, hmix, Bool.true_or, if_true]
  exact wpAny_sound ops.size t _ a _ (anyT_wp ops.size _ a w h2)
end
end Go.KM
