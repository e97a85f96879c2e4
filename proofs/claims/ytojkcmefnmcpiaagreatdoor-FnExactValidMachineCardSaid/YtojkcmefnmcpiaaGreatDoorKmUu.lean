/- Drawn regions whose operations commute as they are: the text's order serves every order. Conditions: none. -/
import Derived.Test.YtojkcmefnmcpiaaGreatDoorKmSs
import Derived.Orders
namespace Go.KM
open Go
open Fam (Dn dflt)
open Enc (cells sz mkE glob gany u8)
set_option autoImplicit false
set_option linter.unusedVariables false
set_option linter.unusedSimpArgs false
set_option linter.unusedSectionVars false
section
section
variable [Enc] {xb : Bool} {d nt : Nat} {e : Option Nat} {S : St} {g g' g0 : G} {a : Act} {w w' w0 : World} {P : Program} {m0 : Nat} {F : Fx} {C : CTab}
theorem stp1_quiet {F : Fx} (hT : TabOk P F.T) (hF : ∀ t z, F.T.flat t = some z → FlatOk P t z) {t : Nat} {S' : St} {o : Oper} (ht : t < nt) (h : Rel d nt e S g a w) (ho : stp1 F o.op t S = some (true, S')) (hq : quietOp o.op = true) :
  RanQ d nt e S.mm.length S' g a w t ((execOp a.eval o).run P w) := by
 have yes_ : ∀ {X : Option St}, yes t X = some (true, S') → X = some S' := fun {X} hX => by
  cases X with
  | none => simp [yes] at hX
  | some y => simpa [yes] using hX
 unfold stp1 at ho
 split at ho
 case h_1 x hop =>
  cases hz : isFrz (F.md t) with
  | true => rw [hz] at ho; exact opFrz_ran ht h (yes_ ho) (by simp [execOp, hop])
  | false => rw [hz] at ho; exact opMove_ran ht h (yes_ ho) hop
 case h_4 T x hop => exact load_ran hT ht h (yes_ ho) hop
 case h_9 T x f hop => exact fieldAddr_ran hT ht h (yes_ ho) hop
 case h_10 T x i hop => exact indexAddr_ran hT ht h ho hop
 case h_12 T x lo hi hop => exact sliceD_ran hT ht h ho hop
 case h_13 op T x y yt hop =>
  split at ho
  ·rename_i b hc hx
   split at ho
   case h_2 => simp at ho
   rename_i hK
   simp only [Option.map_eq_some_iff, Prod.mk.injEq, Prod.exists] at ho
   obtain ⟨c, r, hb, rfl, rfl⟩ := ho
   exact ifc_ran hT ht h hc hx hK hb hop
  ·split at ho
   ·rename_i p q hx hy
    simp only [Option.map_eq_some_iff, Prod.mk.injEq, Prod.exists] at ho
    obtain ⟨c, r, hb, rfl, rfl⟩ := ho
    exact bin_ran hT hF ht h hx hy hb hop
   ·simp at ho
 case h_17 x hop =>
  split at ho
  ·simp at ho
  ·split at ho
   ·rename_i b off hx
    simp only [Option.some.injEq, Prod.mk.injEq, true_and] at ho
    subst ho
    refine ran_valQ h ht (v := a.eval x) ?_ (opv_dup h hx (by cases b <;> rfl) _)
    rw [eval_ad h hx]
    simp [execOp, hop, eval_ad h hx]
   ·rename_i U y off hx
    simp only [Option.some.injEq, Prod.mk.injEq, true_and] at ho
    subst ho
    obtain ⟨bk, o', C, h1, _⟩ := eval_fa h hx
    refine ran_valQ h ht (v := a.eval x) ?_ (opv_dup h hx rfl _)
    rw [h1]
    simp [execOp, hop, h1]
   ·rename_i U y hx
    simp only [Option.some.injEq, Prod.mk.injEq] at ho
    obtain ⟨hy, rfl⟩ := ho
    cases y with
    | none => simp at hy
    | some y =>
     have h5 : RepF g (.fp U (some y)) (a.eval x) := opv_dup h hx rfl (fun _ => .obj)
     have h6 : RepF g (.fa U y 0) (a.eval x) := by
      generalize a.eval x = v at h5
      cases h5 with
      | fpS _ _ _ h6 => exact h6
     obtain ⟨bk, o', C, h1, _⟩ := repF_fa h6
     refine ran_valQ h ht (v := a.eval x) ?_ h6
     rw [h1]
     simp [execOp, hop, h1]
   ·simp at ho
 case h_19 args tys hop =>
  split at ho
  ·rename_i x T ha hty
   exact len_ran hT ht h (yes_ ho) hop ha hty
  ·simp at ho
 all_goals first
  | (simp at ho; done)
  | (rename_i hop; rw [hop] at hq; simp [quietOp] at hq; done)
end
section
variable {P : Program} {ops : Array Oper}
def wpT (P : Program) (o : Oper) (a : Act) (w : World) (K : Act → World → Prop) : Prop :=
 ∃ nx w', (execOp a.eval o).run P w = .ok nx w' ∧ (quietOp o.op = true → w' = w ∧ ∃ v, nx = .value v) ∧ o.upon P a K (fun _ _ _ => False) (.ok nx w')
def opT (P : Program) (ops : Array Oper) (i : Nat) (K : Act → World → Prop) (a : Act) (w : World) : Prop :=
 match ops[i]? with
 | none => K a w
 | some o => if Region.wanted o (yielded ops a.tmps) then wpT P o a w K else K (a.put o.dst undef) w
def opsT (P : Program) (ops : Array Oper) (N : Act → World → Prop) : List Nat → Act → World → Prop
 | [], a, w => N a w
 | i :: r, a, w => opT P ops i (opsT P ops N r) a w
def anyT (P : Program) (ops : Array Oper) (N : Act → World → Prop) : Nat → Array Bool → Act → World → Prop
 | 0, listed, a, w => Region.ready .any ops listed = [] ∧ N a w
 | fuel + 1, listed, a, w => (Region.ready .any ops listed = [] → N a w) ∧ ∀ i ∈ Region.ready .any ops listed, opT P ops i (anyT P ops N fuel (listed.setIfInBounds i true)) a w
theorem noLets : ¬ LetsOut (fun _ _ _ => False) := fun ⟨_, _, h⟩ => h
theorem upon_mono {o : Oper} {a : Act} {K K' : Act → World → Prop} {Q : Exit → Act → World → Prop} (h : ∀ a w, K a w → K' a w) {r : Result Next} (hh : o.upon P a K (fun _ _ _ => False) r) : o.upon P a K' Q r := by
 cases r with
 | ok n w' =>
  cases n <;> simp only [Oper.upon] at hh ⊢ <;>
   first
    | exact h _ _ hh
    | exact Calls.mono hh (fun e w'' he => by cases e <;> first | exact h _ _ he | exact he.elim | exact (noLets he).elim)
    | exact Rows.mono hh (fun _ _ he => h _ _ he)
 | halt x w' => cases x <;> simp only [Oper.upon] at hh ⊢ <;> exact hh.elim
theorem opT_mono {i : Nat} {K K' : Act → World → Prop} (h : ∀ a w, K a w → K' a w) {a : Act} {w : World} (hh : opT P ops i K a w) : opT P ops i K' a w := by
 unfold opT at *
 split at hh
 ·exact h _ _ hh
 ·split at hh
  ·rename_i hw
   rw [if_pos hw]
   obtain ⟨nx, w', h1, h2, h3⟩ := hh
   exact ⟨nx, w', h1, h2, upon_mono h h3⟩
  ·rename_i hw
   rw [if_neg hw]
   exact h _ _ hh
theorem opT_wp {N : Act → World → Prop} {i : Nat} {K K' : Act → World → Prop} {Q : Exit → Act → World → Prop} (h : ∀ a w, K a w → K' a w) {a : Act} {w : World} (hh : opT P ops i K a w) : wpOp P ops Q i K' a w := by
 unfold opT at hh
 unfold wpOp
 split at hh
 ·rename_i ho; simp only [ho]; exact h _ _ hh
 ·rename_i o ho
  simp only [ho]
  split at hh
  ·rename_i hw
   rw [if_pos hw]
   obtain ⟨nx, w', h1, h2, h3⟩ := hh
   left
   unfold Oper.wp
   rw [h1]
   exact upon_mono h h3
  ·rename_i hw
   rw [if_neg hw]
   exact h _ _ hh
theorem anyT_wp {N : Act → World → Prop} : ∀ (fuel : Nat) (listed : Array Bool) (a : Act) (w : World), anyT P ops N fuel listed a w → wpAny P .any ops (fun e a w => e = .normal ∧ N a w) fuel listed a w := by
 intro fuel
 induction fuel with
 | zero => exact fun listed a w h => ⟨h.1, rfl, h.2⟩
 | succ fuel ih => exact fun listed a w h => ⟨fun hr => ⟨rfl, h.1 hr⟩, fun i hi => opT_wp (N := N) (fun a w => ih _ a w) (h.2 i hi)⟩
theorem opT_put {j : Nat} {oj : Oper} {di : Option Tmp} {v : Value} (hj : ops[j]? = some oj) (h1 : ∀ d, di = some d → d ∉ oj.looksAt ops) (h2 : ∀ d, di = some d → oj.dst ≠ some d) (hs : ∀ cs b, oj.op ≠ .select cs b)
  {K : Act → World → Prop} {a : Act} {w : World} : opT P ops j K (a.put di v) w ↔ opT P ops j (fun a' w' => K (a'.put di v) w') a w := by
 unfold opT
 simp only [hj]
 rw [wanted_put oj a di v h1]
 split
 ·unfold wpT
  rw [execOp_put oj hs a di v h1]
  have key : ∀ nx w', oj.upon P (a.put di v) K (fun _ _ _ => False) (.ok nx w') ↔ oj.upon P a (fun a' w' => K (a'.put di v) w') (fun _ _ _ => False) (.ok nx w') := by
   intro nx w'
   cases nx <;> simp only [Oper.upon]
   case value u => rw [Act.put_comm a v u h2]
   case skip => rw [Act.put_comm a v undef h2]
   case defer d => rw [Act.put_defers, Act.put_comm _ v undef h2]
   case enter f args =>
    constructor
    ·intro h
     refine Calls.mono h fun e w'' he => ?_
     cases e with
     | returned u => have he : K ((a.put di v).put oj.dst u) w'' := he; rw [Act.put_comm a v u h2] at he; exact he
     | panicked c => exact he.elim
     | outgrown => exact (noLets he).elim
    ·intro h
     refine Calls.mono h fun e w'' he => ?_
     cases e with
     | returned u => show K ((a.put di v).put oj.dst u) w''; rw [Act.put_comm a v u h2]; exact he
     | panicked c => exact he.elim
     | outgrown => exact (noLets he).elim
   case row row args =>
    constructor
    ·exact fun h => Rows.mono h fun u w'' he => by rw [Act.put_comm a v u h2] at he; exact he
    ·exact fun h => Rows.mono h fun u w'' he => by rw [Act.put_comm a v u h2]; exact he
  constructor
  ·rintro ⟨nx, w', hr, hq, hu⟩; exact ⟨nx, w', hr, hq, (key nx w').1 hu⟩
  ·rintro ⟨nx, w', hr, hq, hu⟩; exact ⟨nx, w', hr, hq, (key nx w').2 hu⟩
 ·rw [Act.put_comm a v undef h2]
theorem yields_opT {i : Nat} {o : Oper} {v : Value} {a : Act} (hi : ops[i]? = some o) (hy : Yields P ops o v a) {K : Act → World → Prop} {w : World} : opT P ops i K a w ↔ K (a.put o.dst v) w := by
 unfold opT
 simp only [hi]
 rcases hy with ⟨hw, hv⟩ | ⟨hw, rfl⟩
 ·rw [if_pos hw]
  unfold wpT
  constructor
  ·rintro ⟨nx, w', hr, _, hu⟩
   rw [hv w] at hr
   cases hr
   exact hu
  ·exact fun h => ⟨.value v, w, hv w, fun _ => ⟨rfl, v, rfl⟩, h⟩
 ·rw [if_neg (by simp [hw])]
theorem opT_keep {i : Nat} {oi oj : Oper} {u : Value} (hi : ops[i]? = some oi) (h3 : ∀ d, oi.dst = some d → d ∉ oj.looksAt ops) (hsj : ∀ cs b, oj.op ≠ .select cs b) {K : Act → World → Prop} {a : Act} {w : World} (hy : Yields P ops oj u a) (h : opT P ops i K a w) :
  opT P ops i (fun a' w' => Yields P ops oj u a' ∧ K a' w') a w := by
 have keep : ∀ (a : Act), Yields P ops oj u a → ∀ x, Yields P ops oj u (a.put oi.dst x) := fun a hy x => hy.of_same (execOp_put oj hsj a oi.dst x h3) (wanted_put oj a oi.dst x h3)
 have keepD : ∀ d, Yields P ops oj u { a with defers := d :: a.defers } := fun d => hy.of_same rfl rfl
 unfold opT at *
 simp only [hi] at *
 split
 ·rename_i hw
  rw [if_pos hw] at h
  obtain ⟨nx, w', hr, hq, hu⟩ := h
  refine ⟨nx, w', hr, hq, ?_⟩
  cases nx <;> simp only [Oper.upon] at hu ⊢
  case value x => exact ⟨keep a hy x, hu⟩
  case skip => exact ⟨keep a hy _, hu⟩
  case defer d => exact ⟨keep _ (keepD d) _, hu⟩
  case enter f args =>
   refine Calls.mono hu fun e w'' he => ?_
   cases e with
   | returned x => exact ⟨keep a hy x, he⟩
   | panicked c => exact he
   | outgrown => exact he
  case row row args => exact Rows.mono hu fun x w'' he => ⟨keep a hy x, he⟩
 ·rename_i hw
  rw [if_neg hw] at h
  exact ⟨keep a hy _, h⟩
theorem pure_yields {o : Oper} (hp : pureOp o.op = true) (a : Act) : ∃ v, Yields P ops o v a := by
 cases hw : Region.wanted o (yielded ops a.tmps) with
 | false => exact ⟨undef, .inr ⟨hw, rfl⟩⟩
 | true =>
  cases ho : o.op <;> simp [ho, pureOp] at hp
  ·exact ⟨_, .inl ⟨hw, fun w => by simp only [execOp, ho]; rfl⟩⟩
  ·exact ⟨_, .inl ⟨hw, fun w => by simp only [execOp, ho]; rfl⟩⟩
theorem opT_swap {i j : Nat} {oi oj : Oper} (hi : ops[i]? = some oi) (hj : ops[j]? = some oj) (hap : oi.apart ops oj = true) (hc : pureOp oi.op = true ∨ pureOp oj.op = true ∨ (quietOp oi.op = true ∧ quietOp oj.op = true))
  (hsi : ∀ cs b, oi.op ≠ .select cs b) (hsj : ∀ cs b, oj.op ≠ .select cs b) {K : Act → World → Prop} {a : Act} {w : World} (h : opT P ops i (fun a w => opT P ops j K a w) a w) : opT P ops j (fun a w => opT P ops i K a w) a w := by
 obtain ⟨h1, h2, h3⟩ := Oper.apart_spec hap
 have h2' : ∀ d, oj.dst = some d → oi.dst ≠ some d := fun d hd hh => h2 d hh hd
 have caseI : ∀ v, Yields P ops oi v a → opT P ops j (fun a w => opT P ops i K a w) a w := fun v hy => by
  rw [yields_opT hi hy, opT_put hj h1 h2 hsj] at h
  exact opT_mono (fun a' w' ⟨h4, h5⟩ => (yields_opT hi h4).2 h5) (opT_keep hj h3 hsi hy h)
 have caseJ : ∀ u, Yields P ops oj u a → opT P ops j (fun a w => opT P ops i K a w) a w := fun u hy => by
  have h4 := opT_keep hi h1 hsj hy h
  have h5 : opT P ops i (fun a' w' => K (a'.put oj.dst u) w') a w := opT_mono (fun a' w' ⟨h6, h7⟩ => (yields_opT hj h6).1 h7) h4
  rw [yields_opT hj hy, opT_put hi h3 h2' hsi]
  exact h5
 rcases hc with hp | hp | ⟨hq, hq'⟩
 ·obtain ⟨v, hy⟩ := pure_yields (P := P) (ops := ops) hp a
  exact caseI v hy
 ·obtain ⟨v, hy⟩ := pure_yields (P := P) (ops := ops) hp a
  exact caseJ v hy
 ·cases hwi : Region.wanted oi (yielded ops a.tmps) with
  | false => exact caseI undef (.inr ⟨hwi, rfl⟩)
  | true =>
   cases hwj : Region.wanted oj (yielded ops a.tmps) with
   | false => exact caseJ undef (.inr ⟨hwj, rfl⟩)
   | true =>
    unfold opT at h
    simp only [hi] at h
    rw [if_pos hwi] at h
    obtain ⟨nx, w', hr, hqq, hu⟩ := h
    obtain ⟨rfl, v, rfl⟩ := hqq hq
    have hu : opT P ops j K (a.put oi.dst v) w' := hu
    rw [opT_put hj h1 h2 hsj] at hu
    unfold opT at hu
    simp only [hj] at hu
    rw [if_pos hwj] at hu
    obtain ⟨nx, w'', hr', hqq', hu⟩ := hu
    obtain ⟨rfl, u, rfl⟩ := hqq' hq'
    have hu : K ((a.put oj.dst u).put oi.dst v) w'' := hu
    unfold opT
    simp only [hj]
    rw [if_pos hwj]
    refine ⟨.value u, w'', hr', fun _ => ⟨rfl, u, rfl⟩, ?_⟩
    show opT P ops i K (a.put oj.dst u) w''
    unfold opT
    simp only [hi]
    rw [wanted_put oi a oj.dst u h3, if_pos hwi]
    refine ⟨.value v, w'', ?_, fun _ => ⟨rfl, v, rfl⟩, hu⟩
    rw [execOp_put oi hsi a oj.dst u h3]
    exact hr
def Closed (ops : Array Oper) (listed : Array Bool) : Prop := ∀ k, listed.getD k false = true → ∀ i, TE ops k i → listed.getD i false = true
theorem apart_symm {x y : Oper} (h : x.apart ops y = true) : y.apart ops x = true := by
 obtain ⟨h1, h2, h3⟩ := Oper.apart_spec h
 unfold Oper.apart
 simp only [Bool.and_eq_true]
 constructor
 ·cases hd : y.dst with
  | none => rfl
  | some d =>
   have := h3 d hd
   simp only [Bool.and_eq_true, Bool.not_eq_true', bne_iff_ne, ne_eq]
   exact ⟨by simpa using this, fun hh => h2 d hh hd⟩
 ·cases hd : x.dst with
  | none => rfl
  | some d =>
   have := h1 d hd
   simpa using this
theorem closed_ready {listed : Array Bool} (hc : Closed ops listed) {j : Nat} (hj : j ∈ Region.ready .any ops listed) {i : Nat} (h : TE ops j i) : listed.getD i false = true := by
 obtain ⟨_, o, ho, hall⟩ := mem_ready.1 hj
 cases h with
 | one h => obtain ⟨o', ho', ed, hed, hb, rfl⟩ := edge_spec.1 h; rw [ho] at ho'; cases ho'; exact hall ed hed hb
 | step h h' => obtain ⟨o', ho', ed, hed, hb, rfl⟩ := edge_spec.1 h; rw [ho] at ho'; cases ho'; exact hc _ (hall ed hed hb) _ h'
theorem closed_set {listed : Array Bool} (hc : Closed ops listed) {j : Nat} (hj : j ∈ Region.ready .any ops listed) : Closed ops (listed.setIfInBounds j true) := by
 intro k hk i h
 by_cases hkj : j = k
 ·subst hkj; exact getD_set_true (closed_ready hc hj h)
 ·rw [getD_set_ne false hkj] at hk; exact getD_set_true (hc k hk i h)
theorem any_first (hns : Region.noSelect ops = true) (hpair : ∀ i j oi oj, ops[i]? = some oi → ops[j]? = some oj → i ≠ j → TE ops i j ∨ TE ops j i ∨ commB ops oi oj = true) {N : Act → World → Prop} : ∀ (fuel : Nat) (listed : Array Bool) (a : Act) (w : World) (i : Nat), Closed ops listed → listed.size = ops.size →
  i ∈ Region.ready .any ops listed → opT P ops i (anyT P ops N fuel (listed.setIfInBounds i true)) a w → anyT P ops N (fuel + 1) listed a w := by
 intro fuel
 induction fuel with
 | zero =>
  intro listed a w i hc hsz hr H
  refine ⟨fun h => (by rw [h] at hr; cases hr), fun j hj => ?_⟩
  by_cases hji : j = i
  ·subst hji; exact H
  ·exfalso
   obtain ⟨_, oi, hoi, _⟩ := mem_ready.1 hr
   have hrj := ready_mono hj hji
   have key : ∀ a w, ¬ anyT P ops N 0 (listed.setIfInBounds i true) a w := fun a w h => by rw [h.1] at hrj; cases hrj
   have h1 : opT P ops i (fun _ _ => False) a w := opT_mono (fun a w h => key a w h) H
   unfold opT at h1
   simp only [hoi] at h1
   split at h1
   ·obtain ⟨nx, w', _, _, hu⟩ := h1
    cases nx <;> simp only [Oper.upon] at hu
    case enter f args =>
     obtain ⟨en, wz, fr, hh, _⟩ := hu (default : List Frame)
     cases en with
     | returned v => exact hh
     | panicked c => exact hh
     | outgrown => exact noLets hh
    case row r args =>
     obtain ⟨_, _, hh, _⟩ := hu default []
     exact hh
   ·exact h1
 | succ fuel ih =>
  intro listed a w i hc hsz hr H
  refine ⟨fun h => (by rw [h] at hr; cases hr), fun j hj => ?_⟩
  by_cases hji : j = i
  ·subst hji; exact H
  ·obtain ⟨huni, oi, hoi, _⟩ := mem_ready.1 hr
   obtain ⟨hunj, oj, hoj, _⟩ := mem_ready.1 hj
   have hlt : ∀ {k : Nat} {o : Oper}, ops[k]? = some o → k < listed.size := fun hk => by rw [hsz]; exact (Array.getElem?_eq_some_iff.1 hk).1
   have hno : ∀ {k : Nat} {o : Oper}, ops[k]? = some o → listed.getD k true = false → ¬ listed.getD k false = true := fun {k o} hk hun hh => by
    have := hlt hk
    simp [this] at hun hh
    rw [hun] at hh; cases hh
   have hcomm : commB ops oi oj = true := by
    rcases hpair i j oi oj hoi hoj (Ne.symm hji) with h | h | h
    ·exact absurd (closed_ready hc hr h) (hno hoj hunj)
    ·exact absurd (closed_ready hc hj h) (hno hoi huni)
    ·exact h
   unfold commB at hcomm
   simp only [Bool.and_eq_true, Bool.or_eq_true, or_assoc] at hcomm
   have h1 : opT P ops i (fun a w => opT P ops j (anyT P ops N fuel ((listed.setIfInBounds i true).setIfInBounds j true)) a w) a w :=
    opT_mono (fun a w h => h.2 j (ready_mono hj hji)) H
   have h2 := opT_swap hoi hoj hcomm.1 hcomm.2 (Region.noSelect_spec hns i oi · · hoi) (Region.noSelect_spec hns j oj · · hoj) h1
   refine opT_mono (fun a' w' h3 => ih (listed.setIfInBounds j true) a' w' i (closed_set hc hj) (by simpa using hsz) (ready_mono hr (Ne.symm hji)) ?_) h2
   rw [Array.setIfInBounds_comm _ _ hji]
   exact h3
def upTo (n i : Nat) : Array Bool := ((List.range n).map fun k => decide (k < i)).toArray
theorem upTo_get (n i k : Nat) (z : Bool) : (upTo n i).getD k z = if k < n then decide (k < i) else z := by
 unfold upTo
 simp only [Array.getD_eq_getD_getElem?, List.getElem?_toArray, List.getElem?_map]
 by_cases h : k < n <;> simp [h]
theorem upTo_set (n i : Nat) (h : i < n) : (upTo n i).setIfInBounds i true = upTo n (i + 1) := by
 apply Array.ext_getElem?
 intro k
 unfold upTo
 simp only [Array.getElem?_setIfInBounds, List.getElem?_toArray, List.getElem?_map, List.size_toArray, List.length_map, List.length_range]
 by_cases hk : i = k
 ·subst hk; simp [h]
 ·rw [if_neg hk]
  by_cases hkn : k < n
  ·simp only [List.getElem?_range hkn, Option.map_some, Option.some.injEq, decide_eq_decide]; omega
  ·simp [hkn]
theorem any_text (hns : Region.noSelect ops = true) (hback : ∀ i j, edge ops i j = true → j < i) (hpair : ∀ i j oi oj, ops[i]? = some oi → ops[j]? = some oj → i ≠ j → TE ops i j ∨ TE ops j i ∨ commB ops oi oj = true) {N : Act → World → Prop} :
  ∀ (m i : Nat) (a : Act) (w : World), i + m = ops.size → opsT P ops N ((List.range ops.size).drop i) a w → anyT P ops N m (upTo ops.size i) a w := by
 have hte : ∀ k i, TE ops k i → i < k := by
  intro k i h
  induction h with
  | one h => exact hback _ _ h
  | step h _ ih => exact Nat.lt_trans ih (hback _ _ h)
 intro m
 induction m with
 | zero =>
  intro i a w hi h
  rw [List.drop_eq_nil_of_le (by simp; omega)] at h
  refine ⟨?_, h⟩
  apply List.filter_eq_nil_iff.2
  intro k hk
  rw [upTo_get, if_pos (List.mem_range.1 hk)]
  have := List.mem_range.1 hk
  simp; intro hh; omega
 | succ m ih =>
  intro i a w hi h
  have hlt : i < ops.size := by omega
  rw [List.drop_eq_getElem_cons (by simpa using hlt), List.getElem_range] at h
  have h : opT P ops i (opsT P ops N ((List.range ops.size).drop (i + 1))) a w := h
  have hc : Closed ops (upTo ops.size i) := fun k hk j hj => by
   rw [upTo_get] at hk ⊢
   have := hte k j hj
   split at hk
   ·simp only [decide_eq_true_eq] at hk
    rw [if_pos (by omega)]; simp; omega
   ·cases hk
  have hr : i ∈ Region.ready .any ops (upTo ops.size i) := by
   refine mem_ready.2 ⟨by rw [upTo_get, if_pos hlt]; simp, ops[i], Array.getElem?_eq_getElem hlt, fun ed hed hb => ?_⟩
   have h1 : ed.on < i := hback i ed.on (edge_spec.2 ⟨ops[i], Array.getElem?_eq_getElem hlt, ed, hed, hb, rfl⟩)
   rw [upTo_get, if_pos (by omega)]; simpa using h1
  refine any_first hns hpair m (upTo ops.size i) a w i hc (by simp [upTo]) hr ?_
  rw [upTo_set _ _ hlt]
  exact opT_mono (fun a w h => ih (i + 1) a w (by omega) h) h
end
section
variable [Enc] {xb : Bool} {d nt : Nat} {e : Option Nat} {S : St} {g g' g0 : G} {a : Act} {w w' w0 : World} {P : Program} {m0 : Nat} {F : Fx} {C : CTab} {ops : Array Oper}
theorem evOp_T {β : Type} {res : β} (hb : Base0 e m0 g0 w0) (hx : FxOk P F e nt xb) (hC : CTabOk P C) {K : St → Option β} (hi : Inv xb d nt e m0 g0 w0 S g a w) {o : Oper}
  (h : evOp F C o S K = some res) {N : Act → World → Prop} (next : ∀ S' g' a' w', K S' = some res → Inv xb d nt e m0 g0 w0 S' g' a' w' → N a' w') : wpT P o a w N := by
 have h1 : o.wp P a w N (fun _ _ _ => False) := evOp_ok hb hx hC hi h next
 unfold Oper.wp at h1
 cases hr : (execOp a.eval o).run P w with
 | halt x w' => rw [hr] at h1; cases x <;> simp [Oper.upon] at h1
 | ok nx w' =>
  rw [hr] at h1
  refine ⟨nx, w', hr, fun hq => ?_, h1⟩
  -- a reading operation
  have hnc : ∀ c : Call, o.op = .call c → (∃ b, c.callee = .builtin b) := fun c hc => by
   rw [hc] at hq
   obtain ⟨callee, args, tys⟩ := c
   cases callee with
   | builtin b => exact ⟨b, rfl⟩
   | _ => simp [quietOp] at hq
  unfold evOp at h
  split at h
  ·rename_i f args tys hop; obtain ⟨b, hb⟩ := hnc _ hop; cases hb
  ·rename_i t args tys hop; obtain ⟨b, hb⟩ := hnc _ hop; cases hb
  ·split at h
   ·rename_i c S1 hs
    cases c with
    | false =>
     simp only [cond_false] at h
     split at h
     ·rename_i t ht
      obtain ⟨b, h2, _⟩ := amb_ran hx hi.rel ht
      rw [hr] at h2
      cases h2
      exact ⟨rfl, _, rfl⟩
     ·simp at h
    | true =>
     unfold stp at hs
     split at hs
     ·rename_i t hdst
      cases hbt : Nat.blt t F.nt with
      | false => simp [hbt] at hs
      | true =>
       simp only [hbt, cond_true] at hs
       simp only [Nat.blt_eq] at hbt
       obtain ⟨g', v, h2, _, _⟩ := stp1_quiet hx.T hx.flat (hx.nt ▸ hbt) hi.rel hs hq
       rw [hr] at h2
       cases h2
       exact ⟨rfl, v, rfl⟩
     ·split at hs
      ·rename_i T x v hop
       rw [hop] at hq; simp [quietOp] at hq
      ·rename_i T m k x hop
       rw [hop] at hq; simp [quietOp] at hq
      ·simp at hs
   ·simp at h
theorem evOps_T {β : Type} {res : β} (hb : Base0 e m0 g0 w0) (hx : FxOk P F e nt xb) (hC : CTabOk P C) {K : St → Option β} {N : Act → World → Prop} :
  ∀ (r : List Oper) (l : List Nat) {S : St} {g : G} {a : Act} {w : World}, l.map (fun i => ops[i]?) = r.map some → Inv xb d nt e m0 g0 w0 S g a w → evOps F C ops r S K = some res →
   (∀ S' g' a' w', K S' = some res → Inv xb d nt e m0 g0 w0 S' g' a' w' → N a' w') → opsT P ops N l a w := by
 intro r
 induction r with
 | nil =>
  intro l S g a w hl hi h next
  cases l with
  | nil => exact next _ _ _ _ h hi
  | cons i l => simp at hl
 | cons o r ih =>
  intro l S g a w hl hi h next
  cases l with
  | nil => simp at hl
  | cons i l =>
   simp only [List.map_cons, List.cons.injEq] at hl
   obtain ⟨ho, hl⟩ := hl
   show opT P ops i (opsT P ops N l) a w
   unfold opT
   simp only [ho]
   have run : ∀ {S : St} {a : Act} {w : World} {g : G}, Inv xb d nt e m0 g0 w0 S g a w → (evOp F C o S fun S => evOps F C ops r (extD F o.dst S) K) = some res → wpT P o a w (opsT P ops N l) :=
    fun hi h => evOp_T hb hx hC hi h fun S' g' a' w' hk hi' => by
     obtain ⟨g'', hi''⟩ := hi'.extD hx hb o.dst
     exact ih l hl hi'' hk next
   have skip : ∀ {S : St}, Inv xb d nt e m0 g0 w0 S g a w → dstOk F o.dst = true → evOps F C ops r (setD S o.dst (.tup [])) K = some res → opsT P ops N l (a.put o.dst undef) w := by
    intro S hi hd h
    refine ih l hl (S := setD S o.dst (.tup [])) (g := g) ⟨?_, hi.ext, hi.va⟩ h next
    cases hdst : o.dst with
    | none => exact hi.rel
    | some t => exact hi.rel.setT (dstOk_lt hx.nt hd t hdst) ⟨#[], rfl, rfl, by simp⟩
   simp only [evOps] at h
   split at h
   ·rename_i hg
    have : Region.wanted o (yielded ops a.tmps) = true := by simp [Region.wanted, hg]
    rw [if_pos this]
    exact run hi h
   ·rename_i j want hg
    split at h
    ·rename_i t c hgv
     rcases guardVal_ok hi.rel hgv with ⟨_, h1, h2⟩ | ⟨h1, _⟩
     ·have hset : ∀ c', c' = c → Inv xb d nt e m0 g0 w0 (S.setT t (.b c')) g a w := fun c' hc => by
       subst hc
       obtain ⟨h3, h4⟩ := hi.rel.tm _ _ h1
       exact ⟨hi.rel.setT' h3 rfl rfl (fun _ _ => rfl) h4, hi.ext, hi.va⟩
      cases hd : dstOk F o.dst with
      | false => simp [hd] at h
      | true =>
       simp only [hd, cond_true] at h
       cases c with
       | true =>
        simp only [cond_true] at h
        cases want with
        | true =>
         simp only [cond_true] at h
         have : Region.wanted o (yielded ops a.tmps) = true := by simp [Region.wanted, hg, h2]
         rw [if_pos this]
         exact run (hset _ rfl) h
        | false =>
         simp only [cond_false] at h
         have : ¬ Region.wanted o (yielded ops a.tmps) = true := by simp [Region.wanted, hg, h2]
         rw [if_neg this]
         exact skip (hset _ rfl) hd h
       | false =>
        simp only [cond_false] at h
        cases want with
        | true =>
         simp only [cond_true] at h
         have : ¬ Region.wanted o (yielded ops a.tmps) = true := by simp [Region.wanted, hg, h2]
         rw [if_neg this]
         exact skip (hset _ rfl) hd h
        | false =>
         simp only [cond_false] at h
         have : Region.wanted o (yielded ops a.tmps) = true := by simp [Region.wanted, hg, h2]
         rw [if_pos this]
         exact run (hset _ rfl) h
     ·simp at h1
    ·rename_i t q c hgv
     rcases guardVal_ok hi.rel hgv with ⟨h1, _⟩ | ⟨_, h2⟩
     ·simp at h1
     ·have : ¬ Region.wanted o (yielded ops a.tmps) = true := by simp [Region.wanted, hg, h2]
      rw [if_neg this]
      cases hd : dstOk F o.dst with
      | false => simp [hd] at h
      | true =>
       simp only [hd, cond_true] at h
       exact skip hi hd h
    ·simp at h
theorem drawT_ok {β : Type} {res : β} (hb : Base0 e m0 g0 w0) (hx : FxOk P F e nt xb) (hC : CTabOk P C) (hmix : P.follows .mixedOrders = true) {K : St → Option β} (hck : drawT ops = true) {N : Act → World → Prop}
  (hi : Inv xb d nt e m0 g0 w0 S g a w) (h : evOps F C ops ops.toList S K = some res)
  (next : ∀ S' g' a' w', K S' = some res → Inv xb d nt e m0 g0 w0 S' g' a' w' → N a' w') (t : Nat) : wpOps P ops (fun e a w => e = .normal ∧ N a w) (Region.schedule (P.follows .mixedOrders) ops t) a w := by
 have hte := masksOf_te (ops := ops) ops.toList [] (fun k j hj => by simp at hj) (fun n o hn => by simpa using hn)
 unfold drawT at hck
 simp only [Bool.and_eq_true] at hck
 have hck2 := allB_iff hck.2
 have hback : ∀ i j, edge ops i j = true → j < i := by
  intro i j he
  obtain ⟨o, ho, ed, hed, hbd, rfl⟩ := edge_spec.1 he
  have h1 := hck2 i (Array.getElem?_eq_some_iff.1 ho).1
  simp only [ho, Bool.and_eq_true] at h1
  have h2 := List.all_eq_true.1 h1.1 ed (by simpa using hed)
  simpa [hbd] using h2
 have hlt : ∀ i j oi oj, ops[i]? = some oi → ops[j]? = some oj → j < i → TE ops i j ∨ commB ops oj oi = true := by
  intro i j oi oj hoi hoj hj
  have h1 := hck2 i (Array.getElem?_eq_some_iff.1 hoi).1
  simp only [hoi, Bool.and_eq_true] at h1
  have h2 := allB_iff h1.2 j hj
  simp only [hoj, Bool.or_eq_true] at h2
  exact h2.imp (hte _ _) id
 have hsym : ∀ {x y : Oper}, commB ops x y = true → commB ops y x = true := fun {x y} h => by
  unfold commB at *
  simp only [Bool.and_eq_true, Bool.or_eq_true] at h ⊢
  refine ⟨apart_symm h.1, ?_⟩
  rcases h.2 with (h1 | h1) | h1
  ·exact .inl (.inr h1)
  ·exact .inl (.inl h1)
  ·exact .inr ⟨h1.2, h1.1⟩
 have hpair : ∀ i j oi oj, ops[i]? = some oi → ops[j]? = some oj → i ≠ j → TE ops i j ∨ TE ops j i ∨ commB ops oi oj = true := by
  intro i j oi oj hoi hoj hne
  rcases Nat.lt_or_gt_of_ne hne with h1 | h1
  ·rcases hlt j i oj oi hoj hoi h1 with h2 | h2
   ·exact .inr (.inl h2)
   ·exact .inr (.inr h2)
  ·rcases hlt i j oi oj hoi hoj h1 with h2 | h2
   ·exact .inl h2
   ·exact .inr (.inr (hsym h2))
 have hidx : (List.range ops.size).map (fun i => ops[i]?) = ops.toList.map some := by
  apply List.ext_getElem?
  intro i
  simp only [List.getElem?_map, Array.getElem?_toList]
  by_cases hi : i < ops.size <;> simp [hi]
 have h1 := evOps_T hb hx hC ops.toList (List.range ops.size) hidx hi h next
 have h2 := any_text hck.1 hback hpair (N := N) ops.size 0 a w (by omega) (by simpa using h1)
 have e0 : upTo ops.size 0 = Array.replicate ops.size false := by
  apply Array.ext_getElem?
  intro k
  unfold upTo
  simp only [List.getElem?_toArray, List.getElem?_map, Array.getElem?_replicate]
  by_cases hk : k < ops.size <;> simp [hk]
 rw [e0] at h2
 simp only [Region.schedule, hmix, Bool.true_or, if_true]
 exact wpAny_sound ops.size t _ a _ (anyT_wp ops.size _ a w h2)
end
end
section
section
variable {P : Program} {ops : Array Oper}
def Pi (P : Program) {α : Type} (m : Sem α) : Prop := ∀ w v w', m.run P w = .ok v w' → w' = w ∧ ∀ w2, m.run P w2 = .ok v w2
theorem Pi.pure {α : Type} (v : α) : Pi P (Pure.pure v : Sem α) := fun w v' w' h => by
 simp only [Sem.run_pure, Result.ok.injEq] at h
 obtain ⟨rfl, rfl⟩ := h
 exact ⟨rfl, fun _ => rfl⟩
theorem Pi.bind {α β : Type} {m : Sem α} {f : α → Sem β} (h : Pi P m) (h' : ∀ x, Pi P (f x)) : Pi P (m >>= f) := fun w v w' hr => by
 rw [Sem.run_bind] at hr
 cases hm : m.run P w with
 | halt x w1 => rw [hm] at hr; simp [Result.andThen] at hr
 | ok x w1 =>
  rw [hm] at hr
  obtain ⟨rfl, h1⟩ := h w x w1 hm
  have hr : (f x).run P w1 = .ok v w' := hr
  obtain ⟨rfl, h2⟩ := h' x _ v w' hr
  exact ⟨rfl, fun w2 => by rw [Sem.run_bind, h1 w2]; exact h2 w2⟩
theorem Pi.stuck {α : Type} (s : String) : Pi P (stuck s : Sem α) := fun w v w' h => by simp at h
theorem Pi.unsupported {α : Type} (u : Unsupported) : Pi P (unsupported u : Sem α) := fun w v w' h => by simp at h
theorem Pi.never {α : Type} {m : Sem α} (h : ∀ w v w', m.run P w ≠ .ok v w') : Pi P m := fun w v w' hr => absurd hr (h w v w')
theorem Pi.underlying (t : TypeId) : Pi P (underlying t) := fun w v w' h => by
 cases hu : P.underlying t with
 | none => simp [Go.underlying, hu, Result.andThen] at h
 | some d =>
  rw [run_underlying hu] at h
  simp only [Result.ok.injEq] at h
  obtain ⟨rfl, rfl⟩ := h
  exact ⟨rfl, fun w2 => run_underlying hu w2⟩
theorem Pi.typeInfo (t : TypeId) : Pi P (typeInfo t) := fun w v w' h => by
 cases hu : P.info? t with
 | none => simp [Go.typeInfo, hu, Result.andThen] at h
 | some d =>
  simp only [Go.typeInfo, Sem.run_bind, run_program, Result.andThen_ok, hu, Sem.run_pure, Result.ok.injEq] at h
  obtain ⟨rfl, rfl⟩ := h
  exact ⟨rfl, fun w2 => by simp [Go.typeInfo, hu, Result.andThen]⟩
theorem Pi.sizeOf (t : TypeId) : Pi P (sizeOf t) := by
 unfold Go.sizeOf
 exact (Pi.typeInfo t).bind fun x => .pure _
theorem Pi.isAgg (t : TypeId) : Pi P (isAgg t) := by
 unfold Go.isAgg
 exact (Pi.underlying t).bind fun x => by split <;> exact .pure _
theorem Pi.part (t : TypeId) (cs : Array Value) (off : Nat) : Pi P (Go.part t cs off) := by
 unfold Go.part
 refine (Pi.isAgg t).bind fun x => ?_
 split
 ·exact (Pi.sizeOf t).bind fun x => .pure _
 ·split
  ·exact .pure _
  ·exact .stuck _
theorem Pi.followBlind : ∀ (l : List FieldStep) (t : TypeId) (x : Option Value), Pi P (followBlind l t x) := by
 intro l
 induction l with
 | nil => intro t x; exact .pure _
 | cons s r ih =>
  intro t x
  unfold Go.followBlind
  refine (Pi.underlying _).bind fun d => ?_
  split
  ·split
   ·split
    ·exact .pure _
    ·exact ih _ _
    ·exact .stuck _
    ·exact .pure _
    ·exact (Pi.part _ _ _).bind fun _ => ih _ _
    ·exact .stuck _
    ·exact ih _ _
   ·exact .stuck _
  ·exact .stuck _
theorem Pi.nilAhead : ∀ (n : Nat) (t : TypeId) (v : Value) (s : String), Pi P (nilAhead n t v s) := by
 intro n
 induction n with
 | zero => intro t v s; exact .pure _
 | succ n ih =>
  intro t v s
  unfold Go.nilAhead
  refine (Pi.typeInfo _).bind fun d => ?_
  split
  ·refine (Pi.followBlind _ _ _).bind fun r => ?_
   split
   ·exact .pure _
   ·split
    ·exact ih _ _ _
    ·exact .pure _
    ·exact .stuck _
    ·exact .pure _
    ·exact .pure _
    ·refine (Pi.underlying _).bind fun d => ?_
     split <;> exact .pure _
  ·exact .stuck _
theorem Pi.program : Pi P program := fun w v w' h => by
 simp only [run_program, Result.ok.injEq] at h
 obtain ⟨rfl, rfl⟩ := h
 exact ⟨rfl, fun _ => run_program _ _⟩
variable [Enc] {F : Fx}
theorem indep_run (hT : TabOk P F.T) {o : Oper} (ho : indepOp F o.op = true) (a : Act) {w w' : World} {nx : Next} (h : (execOp a.eval o).run P w = .ok nx w') :
  ∃ v, nx = .value v ∧ w' = w ∧ ∀ w2, (execOp a.eval o).run P w2 = .ok (.value v) w2 := by
 have fin : Pi P (execOp a.eval o) → (∀ w v w', (execOp a.eval o).run P w = .ok v w' → ∃ x, v = .value x) → ∃ v, nx = .value v ∧ w' = w ∧ ∀ w2, (execOp a.eval o).run P w2 = .ok (.value v) w2 := by
  intro h1 h2
  obtain ⟨rfl, h3⟩ := h1 w nx w' h
  obtain ⟨v, rfl⟩ := h2 _ _ _ h
  exact ⟨v, rfl, rfl, h3⟩
 have val : ∀ {m : Sem Value}, Pi P m → (execOp a.eval o = m >>= fun x => Pure.pure (Next.value x)) → ∃ v, nx = .value v ∧ w' = w ∧ ∀ w2, (execOp a.eval o).run P w2 = .ok (.value v) w2 := by
  intro m h1 h2
  refine fin (by rw [h2]; exact h1.bind fun x => .pure _) (fun w v w' hr => ?_)
  rw [h2, Sem.run_bind] at hr
  cases hm : m.run P w with
  | halt x w1 => rw [hm] at hr; simp [Result.andThen] at hr
  | ok x w1 =>
   rw [hm] at hr
   simp only [Result.andThen_ok, Sem.run_pure, Result.ok.injEq] at hr
   exact ⟨x, hr.1.symm⟩
 cases hop : o.op <;> rw [hop] at ho <;> simp only [indepOp, Bool.false_eq_true] at ho
 case move x =>
  refine fin (by simp only [execOp, hop]; exact .pure _) fun w v w' hr => ?_
  simp only [execOp, hop, Sem.run_pure, Result.ok.injEq] at hr; exact ⟨_, hr.1.symm⟩
 case assign x =>
  refine fin (by simp only [execOp, hop]; exact .pure _) fun w v w' hr => ?_
  simp only [execOp, hop, Sem.run_pure, Result.ok.injEq] at hr; exact ⟨_, hr.1.symm⟩
 case nilCheck x =>
  have rp : ∀ (w : World) (r : Unit) (v : Next) (w' : World), (runtimePanic .nilDeref : Sem Next).run P w ≠ .ok v w' := fun w r v w' hr => by simp [runtimePanic, Result.andThen] at hr
  refine fin ?_ fun w v w' hr => ?_
  ·simp only [execOp, hop]
   split
   ·exact .never fun w v w' => rp w () v w'
   ·exact .never fun w v w' => rp w () v w'
   ·exact .never fun w v w' => rp w () v w'
   ·split
    ·exact .never fun w v w' => rp w () v w'
    ·refine Pi.program.bind fun p => (Pi.nilAhead _ _ _ _).bind fun r => ?_
     split
     ·exact (Pi.unsupported _).bind fun _ => .pure _
     ·exact .pure _
    ·exact .pure _
   ·exact .pure _
  ·simp only [execOp, hop] at hr
   split at hr
   ·exact absurd hr (rp _ () _ _)
   ·exact absurd hr (rp _ () _ _)
   ·exact absurd hr (rp _ () _ _)
   ·split at hr
    ·exact absurd hr (rp _ () _ _)
    ·rw [Sem.run_bind, run_program] at hr
     simp only [Result.andThen_ok] at hr
     rw [Sem.run_bind] at hr
     cases hm : (nilAhead (P.types.size + Made.depth) _ _ _).run P w with
     | halt x w1 => rw [hm] at hr; simp [Result.andThen] at hr
     | ok x w1 =>
      rw [hm] at hr
      simp only [Result.andThen_ok] at hr
      split at hr
      ·simp at hr
      ·simp only [Sem.run_pure, Result.ok.injEq] at hr; exact ⟨_, hr.1.symm⟩
    ·simp only [Sem.run_pure, Result.ok.injEq] at hr; exact ⟨_, hr.1.symm⟩
   ·simp only [Sem.run_pure, Result.ok.injEq] at hr; exact ⟨_, hr.1.symm⟩
 case fieldAddr t x f =>
  refine val (m := Instr.fieldAt t (a.eval x) f) ?_ (by simp only [execOp, hop])
  obtain ⟨⟨o1, n1⟩, hoff⟩ := Option.isSome_iff_exists.1 ho
  obtain ⟨fs, fd, i, h1, h2, h3, h4, h5, h6⟩ := hT.off _ _ _ _ hoff
  unfold Instr.fieldAt
  intro w v w' hr
  rw [Sem.run_bind, run_underlying h1] at hr
  simp only [Result.andThen_ok, h2] at hr
  have key : Pi P (Instr.sureAddr (a.eval x) >>= fun a => fieldPlace a fd >>= fun b => (Pure.pure (Value.pointer (some b)) : Sem Value)) := by
   refine Pi.bind ?_ fun a => (Pi.bind ?_ fun b => .pure _)
   ·unfold Instr.sureAddr; split
    ·exact .pure _
    ·exact .stuck _
   ·intro w v w' hr
    have hs : ∀ w, (fieldPlace a fd).run P w = .ok (a.add fd.offset) w := fun w => by
     simp [fieldPlace, sizeOf, typeInfo, h4, Result.andThen, show i.size ≠ 0 by omega]
    rw [hs] at hr
    simp only [Result.ok.injEq] at hr
    obtain ⟨rfl, rfl⟩ := hr
    exact ⟨rfl, hs⟩
  obtain ⟨k1, k2⟩ := key w v w' hr
  refine ⟨k1, fun w2 => ?_⟩
  rw [Sem.run_bind, run_underlying h1]
  simp only [Result.andThen_ok, h2]
  exact k2 w2
 case indexAddr t x ix =>
  split at ho
  case h_2 => simp at ho
  rename_i el hK
  have hu := (hT.slice _ _ hK).1
  have bp : ∀ {α : Type} k (x y : Int) c (w : World) (v : α) w', (boundsPanic k x y c : Sem α).run P w ≠ .ok v w' := fun {α} k x y c w v w' hr => by
   unfold boundsPanic at hr
   dsimp only at hr
   split at hr
   ·rw [Sem.run_bind] at hr
    cases hm : ((fun x => x == 1) <$> choose (.extern "runtime.boundsError.signed" 2)).run P w with
    | halt x w1 => rw [hm] at hr; simp [Result.andThen] at hr
    | ok x w1 =>
     rw [hm] at hr
     simp [runtimePanic, Result.andThen] at hr
   ·simp [runtimePanic, Result.andThen] at hr
  refine val (m := Instr.indexAt t (a.eval x) (a.eval ix)) ?_ (by simp only [execOp, hop])
  intro w v w' hr
  cases hi : a.eval ix with
  | int k n =>
   cases hx : a.eval x with
   | slice base len cap =>
    rw [hi, hx] at hr
    cases base with
    | none =>
     exfalso
     simp only [Instr.indexAt, asIntOf, Sem.run_bind, Sem.run_pure, run_underlying hu, Result.andThen_ok] at hr
     exact bp _ _ _ _ _ _ _ hr
    | some b =>
     by_cases hc : 0 ≤ n ∧ n < len
     ·obtain ⟨h2, h3, h4, inf, z, h5, h6, _⟩ := hT.slice _ _ hK
      have hrun : ∀ w, (Instr.indexAt t (.slice (some b) len cap) (.int k n)).run P w = .ok (.pointer (some (b.add (n.toNat * sz el)))) w := fun w => by
       have h7 := elem_eq h2
       rw [run_indexAt_slice w t _ len cap k n (by rw [h7]; exact h2), if_pos hc, h7]
       simp [sizeOf, typeInfo, h5, h6]
      rw [hrun] at hr
      simp only [Result.ok.injEq] at hr
      obtain ⟨rfl, rfl⟩ := hr
      exact ⟨rfl, hrun⟩
     ·exfalso
      simp only [Instr.indexAt, asIntOf, Sem.run_bind, Sem.run_pure, run_underlying hu, Result.andThen_ok, if_neg hc] at hr
      simp at hr
      exact bp _ _ _ _ _ _ _ hr
   | _ => rw [hi, hx] at hr; simp [Instr.indexAt, asIntOf, run_underlying hu, Result.andThen] at hr
  | pointer p => cases p <;> (rw [hi] at hr; simp [Instr.indexAt, asIntOf, Result.andThen] at hr)
  | _ => rw [hi] at hr; simp [Instr.indexAt, asIntOf, Result.andThen] at hr
 case extract x i =>
  refine val (m := Instr.extract (a.eval x) i) ?_ (by simp only [execOp, hop])
  unfold Instr.extract
  split
  ·split
   ·exact .pure _
   ·exact .stuck _
  ·exact .stuck _
def wpX (P : Program) (F : Fx) (o : Oper) (a : Act) (w : World) (K : Act → World → Prop) : Prop :=
 ∃ nx w', (execOp a.eval o).run P w = .ok nx w' ∧ (stabOp F o.op = true → w' = w ∧ ∃ v, nx = .value v ∧ ∀ x, (execOp a.eval o).run P (w.alloc x) = .ok (.value v) (w.alloc x)) ∧ o.upon P a K (fun _ _ _ => False) (.ok nx w')
def opX (P : Program) (F : Fx) (ops : Array Oper) (i : Nat) (K : Act → World → Prop) (a : Act) (w : World) : Prop :=
 match ops[i]? with
 | none => K a w
 | some o => if Region.wanted o (yielded ops a.tmps) then wpX P F o a w K else K (a.put o.dst undef) w
theorem opX_mono {i : Nat} {K K' : Act → World → Prop} (h : ∀ a w, K a w → K' a w) {a : Act} {w : World} (hh : opX P F ops i K a w) : opX P F ops i K' a w := by
 unfold opX at *
 split at hh
 ·exact h _ _ hh
 ·split at hh
  ·rename_i hw
   rw [if_pos hw]
   obtain ⟨nx, w', h1, h2, h3⟩ := hh
   exact ⟨nx, w', h1, h2, upon_mono h h3⟩
  ·rename_i hw
   rw [if_neg hw]
   exact h _ _ hh
theorem opX_wp {i : Nat} {K K' : Act → World → Prop} {Q : Exit → Act → World → Prop} (h : ∀ a w, K a w → K' a w) {a : Act} {w : World} (hh : opX P F ops i K a w) : wpOp P ops Q i K' a w := by
 unfold opX at hh
 unfold wpOp
 split at hh
 ·rename_i ho; simp only [ho]; exact h _ _ hh
 ·rename_i o ho
  simp only [ho]
  split at hh
  ·rename_i hw
   rw [if_pos hw]
   obtain ⟨nx, w', h1, h2, h3⟩ := hh
   left
   unfold Oper.wp
   rw [h1]
   exact upon_mono h h3
  ·rename_i hw
   rw [if_neg hw]
   exact h _ _ hh
theorem opX_keep {i : Nat} {oi : Oper} (hi : ops[i]? = some oi) {Q : Act → Prop} {a : Act} (hq : Q a) (hp : ∀ a, Q a → ∀ x, Q (a.put oi.dst x)) (hd : ∀ d, Q { a with defers := d :: a.defers }) {K : Act → World → Prop} {w : World} (h : opX P F ops i K a w) :
  opX P F ops i (fun a' w' => Q a' ∧ K a' w') a w := by
 unfold opX at *
 simp only [hi] at *
 split
 ·rename_i hw
  rw [if_pos hw] at h
  obtain ⟨nx, w', hr, hs, hu⟩ := h
  refine ⟨nx, w', hr, hs, ?_⟩
  cases nx <;> simp only [Oper.upon] at hu ⊢
  case value x => exact ⟨hp a hq x, hu⟩
  case skip => exact ⟨hp a hq _, hu⟩
  case defer d => exact ⟨hp _ (hd d) _, hu⟩
  case enter f args =>
   refine Calls.mono hu fun e w'' he => ?_
   cases e with
   | returned x => exact ⟨hp a hq x, he⟩
   | panicked c => exact he
   | outgrown => exact he
  case row row args => exact Rows.mono hu fun x w'' he => ⟨hp a hq x, he⟩
 ·rename_i hw
  rw [if_neg hw] at h
  exact ⟨hp a hq _, h⟩
theorem opX_same {i : Nat} {oi oj : Oper} (hi : ops[i]? = some oi) (h3 : ∀ d, oi.dst = some d → d ∉ oj.looksAt ops) (hsj : ∀ cs b, oj.op ≠ .select cs b) {K : Act → World → Prop} {a : Act} {w : World} (h : opX P F ops i K a w) :
  opX P F ops i (fun a' w' => (execOp a'.eval oj = execOp a.eval oj ∧ Region.wanted oj (yielded ops a'.tmps) = Region.wanted oj (yielded ops a.tmps)) ∧ K a' w') a w :=
 opX_keep (Q := fun a' => execOp a'.eval oj = execOp a.eval oj ∧ Region.wanted oj (yielded ops a'.tmps) = Region.wanted oj (yielded ops a.tmps)) hi ⟨rfl, rfl⟩
  (fun a' ⟨q1, q2⟩ x => ⟨(execOp_put oj hsj a' oi.dst x h3).trans q1, (wanted_put oj a' oi.dst x h3).trans q2⟩) (fun d => ⟨rfl, rfl⟩) h
theorem opX_tmp {i : Nat} {oi : Oper} (hi : ops[i]? = some oi) {K : Act → World → Prop} {a : Act} {w : World} (h : opX P F ops i K a w) : opX P F ops i (fun a' w' => (∀ t, oi.dst ≠ some t → a'.tmps[t]? = a.tmps[t]?) ∧ K a' w') a w :=
 opX_keep (Q := fun a' => ∀ t, oi.dst ≠ some t → a'.tmps[t]? = a.tmps[t]?) hi (fun _ _ => rfl) (fun a' q x t ht => by
  rw [← q t ht]
  cases hd : oi.dst with
  | none => rfl
  | some d => exact put_ne a' d x fun hh => ht (by rw [hd, hh])) (fun d t ht => rfl) h
theorem opX_ex {i : Nat} {oi : Oper} (hi : ops[i]? = some oi) {K : Act → World → Prop} {a : Act} {w : World} (h : opX P F ops i K a w) : ∃ a' w', K a' w' := by
 unfold opX at h
 simp only [hi] at h
 split at h
 ·obtain ⟨nx, w', _, _, hu⟩ := h
  cases nx <;> simp only [Oper.upon] at hu
  case value x => exact ⟨_, _, hu⟩
  case skip => exact ⟨_, _, hu⟩
  case defer d => exact ⟨_, _, hu⟩
  case enter f args =>
   obtain ⟨en, wz, fr, hh, _⟩ := hu (default : List Frame)
   cases en with
   | returned v => exact ⟨_, _, hh⟩
   | panicked c => exact hh.elim
   | outgrown => exact (noLets hh).elim
  case row r args =>
   obtain ⟨_, _, hh, _⟩ := hu default []
   exact ⟨_, _, hh⟩
 ·exact ⟨_, _, h⟩
theorem opX_put {j : Nat} {oj : Oper} {di : Option Tmp} {v : Value} (hj : ops[j]? = some oj) (h1 : ∀ d, di = some d → d ∉ oj.looksAt ops) (h2 : ∀ d, di = some d → oj.dst ≠ some d) (hs : ∀ cs b, oj.op ≠ .select cs b)
  {K : Act → World → Prop} {a : Act} {w : World} : opX P F ops j K (a.put di v) w ↔ opX P F ops j (fun a' w' => K (a'.put di v) w') a w := by
 unfold opX
 simp only [hj]
 rw [wanted_put oj a di v h1]
 split
 ·unfold wpX
  rw [execOp_put oj hs a di v h1]
  have key : ∀ nx w', oj.upon P (a.put di v) K (fun _ _ _ => False) (.ok nx w') ↔ oj.upon P a (fun a' w' => K (a'.put di v) w') (fun _ _ _ => False) (.ok nx w') := by
   intro nx w'
   cases nx <;> simp only [Oper.upon]
   case value u => rw [Act.put_comm a v u h2]
   case skip => rw [Act.put_comm a v undef h2]
   case defer d => rw [Act.put_defers, Act.put_comm _ v undef h2]
   case enter f args =>
    constructor
    ·intro h
     refine Calls.mono h fun e w'' he => ?_
     cases e with
     | returned u => have he : K ((a.put di v).put oj.dst u) w'' := he; rw [Act.put_comm a v u h2] at he; exact he
     | panicked c => exact he.elim
     | outgrown => exact (noLets he).elim
    ·intro h
     refine Calls.mono h fun e w'' he => ?_
     cases e with
     | returned u => show K ((a.put di v).put oj.dst u) w''; rw [Act.put_comm a v u h2]; exact he
     | panicked c => exact he.elim
     | outgrown => exact (noLets he).elim
   case row row args =>
    constructor
    ·exact fun h => Rows.mono h fun u w'' he => by rw [Act.put_comm a v u h2] at he; exact he
    ·exact fun h => Rows.mono h fun u w'' he => by rw [Act.put_comm a v u h2]; exact he
  constructor
  ·rintro ⟨nx, w', hr, hq, hu⟩; exact ⟨nx, w', hr, hq, (key nx w').1 hu⟩
  ·rintro ⟨nx, w', hr, hq, hu⟩; exact ⟨nx, w', hr, hq, (key nx w').2 hu⟩
 ·rw [Act.put_comm a v undef h2]
theorem yields_opX {i : Nat} {o : Oper} {v : Value} {a : Act} (hi : ops[i]? = some o) (hy : Yields P ops o v a) {K : Act → World → Prop} {w : World} : opX P F ops i K a w ↔ K (a.put o.dst v) w := by
 unfold opX
 simp only [hi]
 rcases hy with ⟨hw, hv⟩ | ⟨hw, rfl⟩
 ·rw [if_pos hw]
  unfold wpX
  constructor
  ·rintro ⟨nx, w', hr, _, hu⟩
   rw [hv w] at hr
   cases hr
   exact hu
  ·exact fun h => ⟨.value v, w, hv w, fun _ => ⟨rfl, v, rfl, fun x => hv _⟩, h⟩
 ·rw [if_neg (by simp [hw])]
theorem indep_yields (hT : TabOk P F.T) {i : Nat} {o : Oper} (hi : ops[i]? = some o) (ho : indepOp F o.op = true) {K : Act → World → Prop} {a : Act} {w : World} (h : opX P F ops i K a w) : ∃ v, Yields P ops o v a := by
 unfold opX at h
 simp only [hi] at h
 cases hw : Region.wanted o (yielded ops a.tmps) with
 | false => exact ⟨undef, .inr ⟨hw, rfl⟩⟩
 | true =>
  rw [if_pos hw] at h
  obtain ⟨nx, w', hr, _, _⟩ := h
  obtain ⟨v, _, _, h3⟩ := indep_run hT ho a hr
  exact ⟨v, .inl ⟨hw, h3⟩⟩
theorem stab_indep {op : Op} (h : indepOp F op = true) : stabOp F op = true := by
 cases op <;> first | exact h | (simp [indepOp] at h)
theorem opX_swap (hT : TabOk P F.T) {i j : Nat} {oi oj : Oper} (hi : ops[i]? = some oi) (hj : ops[j]? = some oj) (hap : oi.apart ops oj = true) (hc : indepOp F oi.op = true ∨ indepOp F oj.op = true ∨ (stabOp F oi.op = true ∧ stabOp F oj.op = true))
  (hsi : ∀ cs b, oi.op ≠ .select cs b) (hsj : ∀ cs b, oj.op ≠ .select cs b) {K : Act → World → Prop} {a : Act} {w : World} (h : opX P F ops i (fun a w => opX P F ops j K a w) a w) : opX P F ops j (fun a w => opX P F ops i K a w) a w := by
 obtain ⟨h1, h2, h3⟩ := Oper.apart_spec hap
 have h2' : ∀ d, oj.dst = some d → oi.dst ≠ some d := fun d hd hh => h2 d hh hd
 have yk : ∀ {oi oj : Oper} {i : Nat} {u : Value} {K : Act → World → Prop}, ops[i]? = some oi → (∀ d, oi.dst = some d → d ∉ oj.looksAt ops) → (∀ cs b, oj.op ≠ .select cs b) → Yields P ops oj u a → opX P F ops i K a w → opX P F ops i (fun a' w' => Yields P ops oj u a' ∧ K a' w') a w := fun {oi oj i u K} hi h3 hsj hy h =>
  opX_mono (fun a' w' ⟨⟨q1, q2⟩, q3⟩ => ⟨hy.of_same q1 q2, q3⟩) (opX_same hi h3 hsj h)
 have caseI : ∀ v, Yields P ops oi v a → opX P F ops j (fun a w => opX P F ops i K a w) a w := fun v hy => by
  rw [yields_opX hi hy, opX_put hj h1 h2 hsj] at h
  exact opX_mono (fun a' w' ⟨h4, h5⟩ => (yields_opX hi h4).2 h5) (yk hj h3 hsi hy h)
 have caseJ : ∀ u, Yields P ops oj u a → opX P F ops j (fun a w => opX P F ops i K a w) a w := fun u hy => by
  have h4 := yk hi h1 hsj hy h
  have h5 : opX P F ops i (fun a' w' => K (a'.put oj.dst u) w') a w := opX_mono (fun a' w' ⟨h6, h7⟩ => (yields_opX hj h6).1 h7) h4
  rw [yields_opX hj hy, opX_put hi h3 h2' hsi]
  exact h5
 rcases hc with hp | hp | ⟨hq, hq'⟩
 ·obtain ⟨v, hy⟩ := indep_yields hT hi hp h
  exact caseI v hy
 ·obtain ⟨a', w', ⟨q1, q2⟩, q3⟩ := opX_ex hi (opX_same hi h1 hsj h)
  obtain ⟨v, hy⟩ := indep_yields hT hj hp q3
  exact caseJ v (hy.of_same q1.symm q2.symm)
 ·cases hwi : Region.wanted oi (yielded ops a.tmps) with
  | false => exact caseI undef (.inr ⟨hwi, rfl⟩)
  | true =>
   cases hwj : Region.wanted oj (yielded ops a.tmps) with
   | false => exact caseJ undef (.inr ⟨hwj, rfl⟩)
   | true =>
    unfold opX at h
    simp only [hi] at h
    rw [if_pos hwi] at h
    obtain ⟨nx, w', hr, hqq, hu⟩ := h
    obtain ⟨rfl, v, rfl, hst⟩ := hqq hq
    have hu : opX P F ops j K (a.put oi.dst v) w' := hu
    rw [opX_put hj h1 h2 hsj] at hu
    unfold opX at hu
    simp only [hj] at hu
    rw [if_pos hwj] at hu
    obtain ⟨nx, w'', hr', hqq', hu⟩ := hu
    obtain ⟨rfl, u, rfl, hst'⟩ := hqq' hq'
    have hu : K ((a.put oj.dst u).put oi.dst v) w'' := hu
    unfold opX
    simp only [hj]
    rw [if_pos hwj]
    refine ⟨.value u, w'', hr', fun _ => ⟨rfl, u, rfl, hst'⟩, ?_⟩
    show opX P F ops i K (a.put oj.dst u) w''
    unfold opX
    simp only [hi]
    rw [wanted_put oi a oj.dst u h3, if_pos hwi]
    refine ⟨.value v, w'', ?_, fun _ => ⟨rfl, v, rfl, fun x => ?_⟩, hu⟩
    ·rw [execOp_put oi hsi a oj.dst u h3]
     exact hr
    ·rw [execOp_put oi hsi a oj.dst u h3]
     exact hst x
theorem alloc_form {o : Oper} (ho : isAl o = true) {a : Act} {w w' : World} {nx : Next} (h : (execOp a.eval o).run P w = .ok nx w') :
  ∃ ob, nx = .value (.pointer (some ⟨w.heap.size, 0, none⟩)) ∧ w' = w.alloc ob ∧ ∀ w2, (execOp a.eval o).run P w2 = .ok (.value (.pointer (some ⟨w2.heap.size, 0, none⟩))) (w2.alloc ob) := by
 unfold isAl at ho
 split at ho
 case h_2 => simp at ho
 rename_i T dd hop hdst hg
 cases hi : P.info? T with
 | none => simp [execOp, hop, Instr.alloc, zeroValue, typeInfo, hi, Result.andThen] at h
 | some inf =>
  cases hz : inf.zero with
  | none => simp [execOp, hop, Instr.alloc, zeroValue, typeInfo, hi, hz, Result.andThen] at h
  | some z =>
   have key : ∀ w2, (execOp a.eval o).run P w2 = .ok (.value (.pointer (some ⟨w2.heap.size, 0, none⟩))) (w2.alloc (.cells z.cells T)) := fun w2 => by
    simp [execOp, hop, Instr.alloc, zeroValue, typeInfo, hi, hz, Go.newVar, newRow, Result.andThen]
   rw [key] at h
   simp only [Result.ok.injEq] at h
   exact ⟨_, h.1.symm, h.2.symm, key⟩
theorem al_wanted {o : Oper} (ho : isAl o = true) (a : Act) : Region.wanted o (yielded ops a.tmps) = true := by
 unfold isAl at ho
 split at ho
 ·rename_i hg; simp [Region.wanted, hg]
 ·simp at ho
theorem al_sel {o : Oper} (ho : isAl o = true) : ∀ cs b, o.op ≠ .select cs b := fun cs b hh => by
 unfold isAl at ho
 rw [hh] at ho
 simp at ho
theorem swapK {i k : Nat} {oi ok : Oper} (hi : ops[i]? = some oi) (hk : ops[k]? = some ok) (hal : isAl ok = true) (hap : ok.apart ops oi = true) (hst : stabOp F oi.op = true) (hsi : ∀ cs b, oi.op ≠ .select cs b)
  {K : Act → World → Prop} {a : Act} {w : World} (H1 : opX P F ops i (fun _ _ => True) a w) (H2 : opX P F ops k (fun a w => opX P F ops i K a w) a w) : opX P F ops i (fun a w => opX P F ops k K a w) a w := by
 obtain ⟨h1, h2, h3⟩ := Oper.apart_spec hap
 have h2' : ∀ d, oi.dst = some d → ok.dst ≠ some d := fun d hd hh => h2 d hh hd
 unfold opX at H2
 simp only [hk] at H2
 rw [if_pos (al_wanted hal a)] at H2
 obtain ⟨nx, w1, hr, _, hu⟩ := H2
 obtain ⟨ob, rfl, rfl, hall⟩ := alloc_form hal hr
 have hu : opX P F ops i K (a.put ok.dst _) (w.alloc ob) := hu
 have after : ∀ v, K ((a.put oi.dst v).put ok.dst (.pointer (some ⟨w.heap.size, 0, none⟩))) (w.alloc ob) → opX P F ops k K (a.put oi.dst v) w := fun v hK => by
  unfold opX
  simp only [hk]
  rw [if_pos (al_wanted hal _)]
  refine ⟨.value (.pointer (some ⟨w.heap.size, 0, none⟩)), w.alloc ob, ?_, fun hs => ?_, hK⟩
  ·rw [execOp_put ok (al_sel hal) a oi.dst v h3]; exact hr
  ·exfalso
   unfold isAl at hal
   split at hal
   ·rename_i hop _ _; rw [hop] at hs; simp [stabOp, indepOp] at hs
   ·simp at hal
 rw [opX_put hi h1 h2 hsi] at hu
 cases hw : Region.wanted oi (yielded ops a.tmps) with
 | false =>
  unfold opX at hu ⊢
  simp only [hi] at hu ⊢
  rw [if_neg (by simp [hw])] at hu ⊢
  exact after _ hu
 | true =>
  unfold opX at hu H1 ⊢
  simp only [hi] at hu H1 ⊢
  rw [if_pos hw] at hu H1 ⊢
  obtain ⟨nx, w', hr1, hs1, _⟩ := H1
  obtain ⟨rfl, v, rfl, hall1⟩ := hs1 hst
  obtain ⟨nx2, w2, hr2, _, hu2⟩ := hu
  rw [hall1 ob] at hr2
  cases hr2
  exact ⟨_, _, hr1, hs1, after v hu2⟩
theorem sto_skip {o : Oper} (ho : stoOp o.op = true) {a : Act} {w w' : World} {nx : Next} (h : (execOp a.eval o).run P w = .ok nx w') : nx = .skip := by
 cases hop : o.op <;> rw [hop] at ho <;> simp only [stoOp, Bool.false_eq_true] at ho
 rename_i t x v
 simp only [execOp, hop, Sem.run_bind] at h
 cases hm : (Instr.storeAt t (a.eval x) (a.eval v)).run P w with
 | halt y w1 => rw [hm] at h; simp [Result.andThen] at h
 | ok y w1 => rw [hm] at h; simp only [Result.andThen_ok, Sem.run_pure, Result.ok.injEq] at h; exact h.1.symm
theorem opX_conj {i : Nat} {oi : Oper} (hi : ops[i]? = some oi) (hd : stabOp F oi.op = true ∨ stoOp oi.op = true) {X : Act → World → Prop} {I : Nat → Prop} {Y : Nat → Act → World → Prop} {a : Act} {w : World} (H1 : opX P F ops i X a w) (H2 : ∀ k, I k → opX P F ops i (Y k) a w) :
  opX P F ops i (fun a w => X a w ∧ ∀ k, I k → Y k a w) a w := by
 unfold opX at *
 simp only [hi] at *
 split
 ·rename_i hw
  rw [if_pos hw] at H1
  obtain ⟨nx, w', hr, hs, hu⟩ := H1
  refine ⟨nx, w', hr, hs, ?_⟩
  have key : ∀ v, (∀ Z : Act → World → Prop, oi.upon P a Z (fun _ _ _ => False) (.ok nx w') = Z (a.put oi.dst v) w') → oi.upon P a (fun a w => X a w ∧ ∀ k, I k → Y k a w) (fun _ _ _ => False) (.ok nx w') := fun v hz => by
   rw [hz] at hu ⊢
   refine ⟨hu, fun k hk => ?_⟩
   have h2 := H2 k hk
   rw [if_pos hw] at h2
   obtain ⟨nx2, w2, hr2, _, hu2⟩ := h2
   rw [hr] at hr2
   cases hr2
   rw [hz] at hu2
   exact hu2
  rcases hd with hd | hd
  ·obtain ⟨_, v, rfl, _⟩ := hs hd
   exact key v fun _ => rfl
  ·have := sto_skip hd hr
   subst this
   exact key undef fun _ => rfl
 ·rename_i hw
  rw [if_neg hw] at H1
  exact ⟨H1, fun k hk => by have := H2 k hk; rw [if_neg hw] at this; exact this⟩
def opsX (P : Program) (F : Fx) (ops : Array Oper) (N : Act → World → Prop) : Nat → List Nat → Act → World → Prop
 | 0, R => fun a w => R = [] ∧ N a w
 | n + 1, R => fun a w => match R with
  | [] => N a w
  | i :: r => opX P F ops i (opsX P F ops N n r) a w ∧ ∀ k, (k ∈ i :: r ∧ alAt ops k = true) → opX P F ops k (opsX P F ops N n ((i :: r).erase k)) a w
theorem bring (hT : TabOk P F.T) (hns : Region.noSelect ops = true) {N : Act → World → Prop} {i : Nat} {oi : Oper} (hi : ops[i]? = some oi) (hd : stabOp F oi.op = true ∨ stoOp oi.op = true) :
  ∀ (n : Nat) (R : List Nat) (a : Act) (w : World), R.length = n + 1 → R.Pairwise (· < ·) → i ∈ R → (∀ j ∈ R, j < ops.size) → (∀ j oj, j ∈ R → j < i → ops[j]? = some oj → commX F ops oj oi = true) →
   (∀ k ok, k ∈ R → k ≠ i → alAt ops k = true → ops[k]? = some ok → commK F ops ok oi = true) → opsX P F ops N (n + 1) R a w → opX P F ops i (opsX P F ops N n (R.erase i)) a w := by
 have hsel : ∀ {j : Nat} {oj : Oper}, ops[j]? = some oj → ∀ cs b, oj.op ≠ .select cs b := fun {j oj} hj => (Region.noSelect_spec hns j oj · · hj)
 intro n
 induction n with
 | zero =>
  intro R a w hl hs hm hR hc hk h
  match R, hl with
  | [j], _ =>
   simp only [List.mem_singleton] at hm
   subst hm
   have := h.1
   rw [List.erase_cons_head]
   exact this
 | succ m ih =>
  intro R a w hl hs hm hR hc hk h
  match R, hl with
  | j :: r, hl =>
   by_cases hji : j = i
   ·subst hji
    rw [List.erase_cons_head]
    exact h.1
   ·have hir : i ∈ r := by rcases List.mem_cons.1 hm with h1 | h1; exact absurd h1.symm hji; exact h1
    have hlt : j < i := List.rel_of_pairwise_cons hs hir
    have he : (j :: r).erase i = j :: r.erase i := by rw [List.erase_cons_tail (by simpa using hji)]
    rw [he]
    have hrl : r.length = m + 1 := by simpa using hl
    obtain ⟨oj, hj⟩ : ∃ oj, ops[j]? = some oj := ⟨_, Array.getElem?_eq_getElem (hR j (by simp))⟩
    have hcj := hc j oj (by simp) hlt hj
    unfold commX at hcj
    simp only [Bool.and_eq_true, Bool.or_eq_true, or_assoc] at hcj
    have C1 : opX P F ops i (fun a w => opX P F ops j (opsX P F ops N m (r.erase i)) a w) a w := by
     refine opX_swap hT hj hi hcj.1 hcj.2 (hsel hj) (hsel hi) (opX_mono (fun a w hh => ?_) h.1)
     exact ih r a w hrl (List.Pairwise.of_cons hs) hir (fun x hx => hR x (by simp [hx])) (fun x ox hx => hc x ox (by simp [hx])) (fun x ox hx => hk x ox (by simp [hx])) hh
    refine opX_conj hi hd C1 (I := fun k => k ∈ j :: r.erase i ∧ alAt ops k = true) (Y := fun k => opX P F ops k (opsX P F ops N m ((j :: r.erase i).erase k))) fun k ⟨hkm, hka⟩ => ?_
    have hnd : (j :: r).Nodup := hs.imp fun h => Nat.ne_of_lt h
    have hkR : k ∈ j :: r := by rw [← he] at hkm; exact List.mem_of_mem_erase hkm
    have hki : k ≠ i := fun hh => by subst hh; rw [← he] at hkm; exact (List.Nodup.not_mem_erase hnd) hkm
    obtain ⟨ok, hok⟩ : ∃ ok, ops[k]? = some ok := ⟨_, Array.getElem?_eq_getElem (hR k hkR)⟩
    have hal : isAl ok = true := by unfold alAt at hka; rw [hok] at hka; exact hka
    have hck := hk k ok hkR hki hka hok
    unfold commK at hck
    simp only [Bool.and_eq_true, Bool.or_eq_true] at hck
    have hst : stabOp F oi.op = true := hck.2.elim stab_indep id
    have hmem : ∀ x, x ∈ (j :: r).erase k → x ∈ j :: r := fun x hx => List.mem_of_mem_erase hx
    have h2 : opX P F ops k (fun a w => opX P F ops i (opsX P F ops N m (((j :: r).erase k).erase i)) a w) a w := by
     refine opX_mono (fun a w hh => ?_) (h.2 k ⟨hkR, hka⟩)
     refine ih ((j :: r).erase k) a w ?_ (List.Pairwise.sublist (List.erase_sublist) hs) ((List.mem_erase_of_ne (Ne.symm hki)).2 hm) (fun x hx => hR x (hmem x hx)) (fun x ox hx => hc x ox (hmem x hx)) (fun x ox hx => hk x ox (hmem x hx)) hh
     rw [List.length_erase_of_mem hkR]; simp at hl ⊢; omega
    have h3 := swapK hi hok hal hck.1 hst (hsel hi) (opX_mono (fun _ _ _ => trivial) C1) h2
    refine opX_mono (fun a w hh => ?_) h3
    show opX P F ops k (opsX P F ops N m ((j :: r.erase i).erase k)) a w
    rw [← he, List.erase_comm]
    exact hh
structure DrawX (F : Fx) (ops : Array Oper) : Prop where
 ns : Region.noSelect ops = true
 back : ∀ i j, edge ops i j = true → j < i
 any : ∀ i oi, ops[i]? = some oi → isAl oi = true ∨ (∀ j, j < i → TE ops i j) ∨
  ((stabOp F oi.op = true ∨ stoOp oi.op = true) ∧ (∀ j oj, ops[j]? = some oj → j < i → TE ops i j ∨ commX F ops oj oi = true) ∧ ∀ k ok, ops[k]? = some ok → alAt ops k = true → TE ops i k ∨ commK F ops ok oi = true)
theorem drawX_spec (h : drawX F ops = true) : DrawX F ops := by
 have hte := masksOf_te (ops := ops) ops.toList [] (fun k j hj => by simp at hj) (fun n o hn => by simpa using hn)
 unfold drawX at h
 simp only [Bool.and_eq_true] at h
 have hck2 := allB_iff h.2
 refine ⟨h.1, fun i j he => ?_, fun i oi hi => ?_⟩
 ·obtain ⟨o, ho, ed, hed, hbd, rfl⟩ := edge_spec.1 he
  have h1 := hck2 i (Array.getElem?_eq_some_iff.1 ho).1
  simp only [ho, Bool.and_eq_true] at h1
  have h2 := List.all_eq_true.1 h1.1 ed (by simpa using hed)
  simpa [hbd] using h2
 ·have h1 := hck2 i (Array.getElem?_eq_some_iff.1 hi).1
  simp only [hi, Bool.and_eq_true, Bool.or_eq_true] at h1
  rcases h1.2 with (h2 | h2) | ⟨h2, h3, h4⟩
  ·exact .inl h2
  ·exact .inr (.inl fun j hj => hte _ _ (allB_iff h2 j hj))
  ·refine .inr (.inr ⟨?_, fun j oj hj hlt => ?_, fun k ok hk ha => ?_⟩)
   ·rcases h2 with (h2 | h2) | h2
    ·exact .inl (stab_indep h2)
    ·exact .inl h2
    ·exact .inr h2
   ·have h5 := allB_iff h3 j hlt
    simp only [hj, Bool.or_eq_true] at h5
    exact h5.imp (hte _ _) id
   ·have h5 := allB_iff h4 k (Array.getElem?_eq_some_iff.1 hk).1
    simp only [hk, ha, Bool.not_true, Bool.false_or, Bool.or_eq_true] at h5
    exact h5.imp (hte _ _) id
theorem opsX_any (hT : TabOk P F.T) (hX : DrawX F ops) {N : Act → World → Prop} : ∀ (n : Nat) (listed : Array Bool) (R : List Nat) (a : Act) (w : World), R.length = n → R.Pairwise (· < ·) → listed.size = ops.size → Closed ops listed →
  (∀ i, i ∈ R ↔ i < ops.size ∧ listed.getD i false = false) → opsX P F ops N n R a w → wpAny P .any ops (fun e a w => e = .normal ∧ N a w) n listed a w := by
 have unl : ∀ {listed : Array Bool} {i : Nat}, listed.size = ops.size → i < ops.size → listed.getD i false = false → listed.getD i true = false := fun {listed i} hsz hi h => by
  have : i < listed.size := by omega
  simp [this] at h ⊢; exact h
 intro n
 induction n with
 | zero =>
  intro listed R a w hl hs hsz hc hR h
  obtain ⟨rfl, h⟩ := h
  refine And.intro ?_ ⟨rfl, h⟩
  cases hr : Region.ready .any ops listed with
  | nil => rfl
  | cons x l =>
   exfalso
   have hx : x ∈ Region.ready .any ops listed := by rw [hr]; simp
   obtain ⟨h1, o, ho, _⟩ := mem_ready.1 hx
   have hlt := (Array.getElem?_eq_some_iff.1 ho).1
   have hun : listed.getD x false = false := by
    have : x < listed.size := by omega
    simp [this] at h1 ⊢; exact h1
   have : x ∈ ([] : List Nat) := (hR x).2 ⟨hlt, hun⟩
   simp at this
 | succ n ih =>
  intro listed R a w hl hs hsz hc hR h
  match R, hl with
  | j :: r, hl =>
   have hj := (hR j).1 (by simp)
   obtain ⟨oj, hoj⟩ : ∃ oj, ops[j]? = some oj := ⟨_, Array.getElem?_eq_getElem hj.1⟩
   have hjr : j ∈ Region.ready .any ops listed := by
    refine mem_ready.2 ⟨unl hsz hj.1 hj.2, oj, hoj, fun ed hed hb => ?_⟩
    have h1 : ed.on < j := hX.back j ed.on (edge_spec.2 ⟨oj, hoj, ed, hed, hb, rfl⟩)
    cases hg : listed.getD ed.on false with
    | true => rfl
    | false =>
     have h2 : ed.on ∈ j :: r := (hR ed.on).2 ⟨by omega, hg⟩
     rcases List.mem_cons.1 h2 with h3 | h3
     ·omega
     ·have := List.rel_of_pairwise_cons hs h3; omega
   refine ⟨fun hr => (by rw [hr] at hjr; cases hjr), fun i hi => ?_⟩
   obtain ⟨hun, oi, hoi, _⟩ := mem_ready.1 hi
   have hilt := (Array.getElem?_eq_some_iff.1 hoi).1
   have hiu : listed.getD i false = false := by
    have : i < listed.size := by omega
    simp [this] at hun ⊢; exact hun
   have him : i ∈ j :: r := (hR i).2 ⟨hilt, hiu⟩
   have hnd : (j :: r).Nodup := hs.imp fun h => Nat.ne_of_lt h
   have key : opX P F ops i (opsX P F ops N n ((j :: r).erase i)) a w := by
    have seq : i = j → opX P F ops i (opsX P F ops N n ((j :: r).erase i)) a w := fun hh => by
     subst hh
     rw [List.erase_cons_head]; exact h.1
    have done : ∀ {x : Nat}, TE ops i x → x ∉ j :: r := fun {x} hx hm => by
     have := closed_ready hc hi hx
     rw [((hR x).1 hm).2] at this; cases this
    rcases hX.any i oi hoi with h1 | h1 | ⟨h1, h2, h3⟩
    ·exact h.2 i ⟨him, by unfold alAt; rw [hoi]; exact h1⟩
    ·refine seq ?_
     rcases List.mem_cons.1 him with h2 | h2
     ·exact h2
     ·exact absurd (by simp) (done (h1 j (List.rel_of_pairwise_cons hs h2)))
    ·refine bring hT hX.ns hoi h1 n (j :: r) a w hl hs him (fun x hx => ((hR x).1 hx).1) (fun x ox hx hlt hox => ?_) (fun k ok hk hne ha hok => ?_) h
     ·exact (h2 x ox hox hlt).resolve_left fun hh => done hh hx
     ·exact (h3 k ok hok ha).resolve_left fun hh => done hh hk
   refine opX_wp (fun a w hh => ?_) key
   refine ih (listed.setIfInBounds i true) ((j :: r).erase i) a w ?_ (List.Pairwise.sublist (List.erase_sublist) hs) (by simpa using hsz) (closed_set hc hi) (fun x => ?_) hh
   ·rw [List.length_erase_of_mem him]; simp at hl ⊢; omega
   ·rw [hnd.mem_erase_iff, hR x]
    by_cases hxi : x = i
    ·subst hxi
     constructor
     ·rintro ⟨h1, _⟩; exact absurd rfl h1
     ·rintro ⟨_, h2⟩
      have : x < listed.size := by omega
      simp [this] at h2
    ·rw [getD_set_ne false (Ne.symm hxi)]
     exact ⟨fun ⟨_, h⟩ => h, fun h => ⟨hxi, h⟩⟩
end
section
variable [Enc] {xb : Bool} {d nt : Nat} {e : Option Nat} {S : St} {g g' g0 : G} {a : Act} {w w' w0 : World} {P : Program} {m0 : Nat} {F : Fx} {C : CTab} {ops : Array Oper}
theorem load_cells {t ty : Nat} {x : Operand} {S' : St} (h : Rel d nt e S g a w) (ho : opLoad F t ty x S = some S') : ∃ b off C E fr, a.eval x = .pointer (some ⟨b, off, none⟩) ∧ w.heap[b]? = some (.cells C E fr) := by
 unfold opLoad at ho
 split at ho
 ·rename_i s U i off hx
  obtain ⟨u, rfl, hu⟩ := opr_tmp hx
  split at ho
  ·rename_i V xs hs
   cases hUV : Nat.beq U V with
   | false => simp [hUV] at ho
   | true =>
    have := Nat.eq_of_beq_eq_true hUV
    subst this
    obtain ⟨_, xs', b, len, cap, h1, h2, h3, h4⟩ := h.rt u _ hu
    obtain ⟨κ, h5, h6⟩ := src_rep h hs h2
    obtain ⟨C, h7, _⟩ := repO_row h5
    exact ⟨b, _, C, _, _, h4, h7⟩
  ·simp at ho
 ·simp at ho
 ·split at ho
  ·rename_i U y off hx
   obtain ⟨bk, o, C, h1, h2, h3⟩ := eval_fa h hx
   obtain ⟨_, h4⟩ := h.wf.fz _ _ h2
   exact ⟨_, _, _, _, _, h1, h4⟩
  ·rename_i b off hx
   split at ho
   ·rename_i cs hb
    obtain ⟨_, C, E, h1, h2⟩ := h.cont hb
    exact ⟨_, _, _, _, _, eval_ad h hx, h1⟩
   ·simp at ho
  ·simp at ho
theorem load_stab {o : Oper} {ty : Nat} {x : Operand} (hop : o.op = .load ty x) {b off : Nat} {C : Array Value} {E : TypeId} {fr : Nat × Nat} (hx : a.eval x = .pointer (some ⟨b, off, none⟩)) (hb : w.heap[b]? = some (.cells C E fr)) {nx : Next} (h : (execOp a.eval o).run P w = .ok nx w') :
  w' = w ∧ ∃ v, nx = .value v ∧ ∀ ob, (execOp a.eval o).run P (w.alloc ob) = .ok (.value v) (w.alloc ob) := by
 have hlt : b < w.heap.size := (Array.getElem?_eq_some_iff.1 hb).1
 let Q : {α : Type} → Sem α → Prop := fun {α} m => ∀ v w', m.run P w = .ok v w' → w' = w ∧ ∀ ob, m.run P (w.alloc ob) = .ok v (w.alloc ob)
 have qpure : ∀ {α : Type} (v : α), Q (Pure.pure v : Sem α) := fun {α} v v' w' h => by
  simp only [Sem.run_pure, Result.ok.injEq] at h
  obtain ⟨rfl, rfl⟩ := h
  exact ⟨rfl, fun _ => rfl⟩
 have qbind : ∀ {α β : Type} {m : Sem α} {f : α → Sem β}, Q m → (∀ x, Q (f x)) → Q (m >>= f) := fun {α β m f} h h' v w' hr => by
  rw [Sem.run_bind] at hr
  cases hm : m.run P w with
  | halt x w1 => rw [hm] at hr; simp [Result.andThen] at hr
  | ok x w1 =>
   rw [hm] at hr
   obtain ⟨rfl, h1⟩ := h x w1 hm
   have hr : (f x).run P w1 = .ok v w' := hr
   obtain ⟨rfl, h2⟩ := h' x v w' hr
   exact ⟨rfl, fun w2 => by rw [Sem.run_bind, h1 w2]; exact h2 w2⟩
 have qpi : ∀ {α : Type} {m : Sem α}, Pi P m → Q m := fun {α m} h v w' hr => let ⟨h1, h2⟩ := h w v w' hr; ⟨h1, fun ob => h2 _⟩
 have qload : ∀ (c : Addr), c.block = b → Q (load c : Sem Value) := fun c hc v w' hr => by
  have hh : (w.alloc (default : Obj)).heap[b]? = w.heap[b]? := heap_alloc_old' w _ b (by omega)
  rw [run_load] at hr
  cases hcell : w.cell? c with
  | some u =>
   rw [hcell] at hr
   simp only [Result.ok.injEq] at hr
   obtain ⟨rfl, rfl⟩ := hr
   refine ⟨rfl, fun ob => ?_⟩
   have : (w.alloc ob).cell? c = w.cell? c := by
    unfold World.cell?
    rw [hc, heap_alloc_old' w ob b (by omega)]
   rw [run_load, this, hcell]
  | none =>
   exfalso
   rw [hcell] at hr
   simp only [World.farLoad, hc, hb] at hr
   cases hr
 have qcells : ∀ (n i : Nat) (acc : Array Value) (c : Addr), c.block = b → Q (loadCellsFrom c i n acc) := by
  intro n
  induction n with
  | zero => intro i acc c hc; exact qpure _
  | succ n ih => intro i acc c hc; exact qbind (qload _ (by unfold Addr.add; split <;> exact hc)) fun v => ih _ _ _ hc
 have qvar : Q (loadVar ty ⟨b, off, none⟩) := by
  unfold loadVar
  refine qbind (qpi ?_) fun ag => ?_
  ·unfold isAgg
   refine (Pi.underlying ty).bind fun d => ?_
   split <;> exact .pure _
  ·split
   ·exact qbind (qpi (.sizeOf ty)) fun n => qbind (qcells _ _ _ _ rfl) fun _ => qpure _
   ·exact qload _ rfl
 have hex : execOp a.eval o = loadVar ty ⟨b, off, none⟩ >>= fun x => Pure.pure (Next.value x) := by
  simp only [execOp, hop, hx, Instr.loadAt, Instr.sureAddr]
  rfl
 obtain ⟨h1, h2⟩ := qbind qvar (fun x => qpure (Next.value x)) nx w' (by rw [← hex]; exact h)
 rw [hex, Sem.run_bind] at h
 cases hm : (loadVar ty ⟨b, off, none⟩).run P w with
 | halt y w1 => rw [hm] at h; simp [Result.andThen] at h
 | ok y w1 =>
  rw [hm] at h
  simp only [Result.andThen_ok, Sem.run_pure, Result.ok.injEq] at h
  obtain ⟨rfl, _⟩ := h
  exact ⟨h1, y, rfl, fun ob => by rw [hex]; exact h2 ob⟩
theorem evOp_X {β : Type} {res : β} (hb : Base0 e m0 g0 w0) (hx : FxOk P F e nt xb) (hC : CTabOk P C) {K : St → Option β} (hi : Inv xb d nt e m0 g0 w0 S g a w) {o : Oper}
  (h : evOp F C o S K = some res) {N : Act → World → Prop} (next : ∀ S' g' a' w', K S' = some res → Inv xb d nt e m0 g0 w0 S' g' a' w' → N a' w') : wpX P F o a w N := by
 have h1 : o.wp P a w N (fun _ _ _ => False) := evOp_ok hb hx hC hi h next
 unfold Oper.wp at h1
 cases hr : (execOp a.eval o).run P w with
 | halt x w' => rw [hr] at h1; cases x <;> simp [Oper.upon] at h1
 | ok nx w' =>
  rw [hr] at h1
  refine ⟨nx, w', hr, fun hq => ?_, h1⟩
  cases hop : o.op <;> rw [hop] at hq <;> try (simp only [stabOp, indepOp, Bool.false_eq_true] at hq; done)
  case load ty x =>
   unfold evOp at h
   simp only [hop] at h
   unfold stp at h
   split at h
   ·rename_i c S1 hs
    split at hs
    ·rename_i t hdst
     cases hbt : Nat.blt t F.nt with
     | false => simp [hbt] at hs
     | true =>
      simp only [hbt, cond_true, hop, stp1] at hs
      cases hl : opLoad F t ty x S with
      | none => simp [hl, yes] at hs
      | some S2 =>
       obtain ⟨b, off, C', E, fr, q1, q2⟩ := load_cells hi.rel hl
       exact load_stab hop q1 q2 hr
    ·simp [hop] at hs
   ·simp at h
  all_goals
   obtain ⟨v, q1, q2, q3⟩ := indep_run hx.T (o := o) (by rw [hop]; exact hq) a hr
   exact ⟨q2, v, q1, fun ob => q3 _⟩
theorem evOps1_X {β : Type} {res : β} (hb : Base0 e m0 g0 w0) (hx : FxOk P F e nt xb) (hC : CTabOk P C) {K : St → Option β} (hi : Inv xb d nt e m0 g0 w0 S g a w) {o : Oper} {i : Nat} (ho : ops[i]? = some o)
  (h : evOps F C ops [o] S K = some res) : opX P F ops i (fun a' w' => ∃ S' g', K S' = some res ∧ Inv xb d nt e m0 g0 w0 S' g' a' w') a w := by
 unfold opX
 simp only [ho]
 have run : ∀ {S : St} {a : Act} {w : World} {g : G}, Inv xb d nt e m0 g0 w0 S g a w → (evOp F C o S fun S => evOps F C ops [] (extD F o.dst S) K) = some res → wpX P F o a w (fun a' w' => ∃ S' g', K S' = some res ∧ Inv xb d nt e m0 g0 w0 S' g' a' w') :=
  fun hi h => evOp_X hb hx hC hi h fun S' g' a' w' hk hi' => by
   obtain ⟨g'', hi''⟩ := hi'.extD hx hb o.dst
   exact ⟨_, g'', hk, hi''⟩
 have skip : ∀ {S : St}, Inv xb d nt e m0 g0 w0 S g a w → dstOk F o.dst = true → evOps F C ops [] (setD S o.dst (.tup [])) K = some res → ∃ S' g', K S' = some res ∧ Inv xb d nt e m0 g0 w0 S' g' (a.put o.dst undef) w := by
  intro S hi hd h
  refine ⟨setD S o.dst (.tup []), g, h, ⟨?_, hi.ext, hi.va⟩⟩
  cases hdst : o.dst with
  | none => exact hi.rel
  | some t => exact hi.rel.setT (dstOk_lt hx.nt hd t hdst) ⟨#[], rfl, rfl, by simp⟩
 simp only [evOps] at h
 split at h
 ·rename_i hg
  have : Region.wanted o (yielded ops a.tmps) = true := by simp [Region.wanted, hg]
  rw [if_pos this]
  exact run hi h
 ·rename_i j want hg
  split at h
  ·rename_i t c hgv
   rcases guardVal_ok hi.rel hgv with ⟨_, h1, h2⟩ | ⟨h1, _⟩
   ·have hset : ∀ c', c' = c → Inv xb d nt e m0 g0 w0 (S.setT t (.b c')) g a w := fun c' hc => by
     subst hc
     obtain ⟨h3, h4⟩ := hi.rel.tm _ _ h1
     exact ⟨hi.rel.setT' h3 rfl rfl (fun _ _ => rfl) h4, hi.ext, hi.va⟩
    cases hd : dstOk F o.dst with
    | false => simp [hd] at h
    | true =>
     simp only [hd, cond_true] at h
     cases c with
     | true =>
      simp only [cond_true] at h
      cases want with
      | true =>
       simp only [cond_true] at h
       have : Region.wanted o (yielded ops a.tmps) = true := by simp [Region.wanted, hg, h2]
       rw [if_pos this]
       exact run (hset _ rfl) h
      | false =>
       simp only [cond_false] at h
       have : ¬ Region.wanted o (yielded ops a.tmps) = true := by simp [Region.wanted, hg, h2]
       rw [if_neg this]
       exact skip (hset _ rfl) hd h
     | false =>
      simp only [cond_false] at h
      cases want with
      | true =>
       simp only [cond_true] at h
       have : ¬ Region.wanted o (yielded ops a.tmps) = true := by simp [Region.wanted, hg, h2]
       rw [if_neg this]
       exact skip (hset _ rfl) hd h
      | false =>
       simp only [cond_false] at h
       have : Region.wanted o (yielded ops a.tmps) = true := by simp [Region.wanted, hg, h2]
       rw [if_pos this]
       exact run (hset _ rfl) h
   ·simp at h1
  ·rename_i t q c hgv
   rcases guardVal_ok hi.rel hgv with ⟨h1, _⟩ | ⟨_, h2⟩
   ·simp at h1
   ·have : ¬ Region.wanted o (yielded ops a.tmps) = true := by simp [Region.wanted, hg, h2]
    rw [if_neg this]
    cases hd : dstOk F o.dst with
    | false => simp [hd] at h
    | true =>
     simp only [hd, cond_true] at h
     exact skip hi hd h
  ·simp at h
structure Early (F : Fx) (ops : Array Oper) (g : G) (a : Act) (w : World) (k b : Nat) : Prop where
 is : ∃ o T dd z C E, ops[k]? = some o ∧ isAl o = true ∧ o.op = .alloc T ∧ o.dst = some dd ∧ F.T.zr T = some z ∧ a.tmps[dd]? = some (.pointer (some ⟨b, 0, none⟩)) ∧
  w.heap[b]? = some (.cells C E (0, 0)) ∧ C.size = z.length ∧ z.all PV.plain = true ∧ ∀ g : G, CellsAt g C 0 z
 own : g.own b = some .obj
 oa : ∀ i, i < g.no → g.oa i ≠ b
theorem Inv.rebase (hb : Base0 e m0 g0 w0) (hi : Inv xb d nt e m0 g0 w0 S g a w) {S' : St} {a' : Act} (h : Inv xb d nt e S.mm.length g w S' g' a' w') : Inv xb d nt e m0 g0 w0 S' g' a' w' := by
 refine ⟨h.rel, ?_, fun hx => (h.va hx).trans (hi.va hx)⟩
 have h1 : Ext d m0 (g0.setVa g'.va) w0 (g.setVa g'.va) w := hi.ext.setVa2 g'.va
 have hb' : Base0 e m0 (g0.setVa g'.va) w0 := ⟨hb.no, hb.own, hb.ob⟩
 have hb2 : Base0 e S.mm.length (g.setVa g'.va) w := ⟨hi.rel.no, hi.rel.wf.own, hi.rel.wf.ob⟩
 cases e with
 | some k =>
  have h3 : m0 = 0 := hb.no.1
  have h4 : S.mm.length = 0 := hi.rel.no.1
  have h5 := h.ext
  rw [h4] at h5
  subst h3
  exact h1.trans h5 fun i hi => by omega
 | none =>
  have h3 : m0 = g0.no := hb.no
  have h4 : S.mm.length = g.no := hi.rel.no
  have h5 := h.ext
  rw [h4] at h5
  have hoa : ∀ i b, b < w0.heap.size → (∀ j, j < m0 → g0.oa j ≠ b) → i < g.no → g.oa i ≠ b := by
   intro i b hb' hj hi'
   by_cases hi0 : i < g0.no
   ·have := hi.ext.gr.oa i hi0
    have h6 : g.oa i = g0.oa i := this
    rw [h6]; exact hj i (by omega)
   ·have := hi.ext.nw i (by show g0.no ≤ i; omega) hi'; omega
  refine ⟨h1.gr.trans h5.gr, fun b κ hb' ho => ?_, Nat.le_trans h1.hs h5.hs, fun i h6 h7 => ?_, h1.sl.trans h5.sl⟩
  ·obtain ⟨h6, h7⟩ := h1.own b κ hb' ho
   have h8 : Outer d g.no (g.setVa g'.va) b κ := by
    cases κ with
    | obj => exact fun i hi' => hoa i b (hb.own _ _ hb') ho hi'
    | ob b' j => exact fun i hi' => hoa i b' (hb.ob _ _ _ hb') ho hi'
    | _ => exact ho
   obtain ⟨h9, h10⟩ := h5.own b κ h6 h8
   exact ⟨h9, h10.trans h7⟩
  ·by_cases hig : i < g.no
   ·have h8 : g'.oa i = g.oa i := h5.gr.oa i hig
    rw [h8]; exact h1.nw i h6 hig
   ·exact Nat.le_trans h1.hs (h5.nw i (by show g.no ≤ i; omega) h7)
theorem Early.go {k b : Nat} (he : Early F ops g a w k b) (hmm : e.isNone = true → S.mm.length = g.no) (hm : S.mm.length ≤ g.no) {f : Nat → Option Value} (hx : Ext d S.mm.length (g.setVa f) w g' w') (hsz : b < w.heap.size) {a' : Act} (ha : ∀ o dd, ops[k]? = some o → o.dst = some dd → a'.tmps[dd]? = a.tmps[dd]?) : Early F ops g' a' w' k b := by
 obtain ⟨⟨o, T, dd, z, C, E, h1, h2, h3, h4, h5, h6, h7, h8, h9, h10⟩, hown, hoa⟩ := he
 obtain ⟨k1, k2⟩ := hx.own b .obj hown fun i hi => hoa i (by show i < g.no; omega)
 refine ⟨⟨o, T, dd, z, C, E, h1, h2, h3, h4, h5, (ha o dd h1 h4).trans h6, k2.trans h7, h8, h9, h10⟩, k1, fun i hi hh => ?_⟩
 by_cases hig : i < g.no
 ·have h11 : g'.oa i = g.oa i := hx.gr.oa i hig
  exact hoa i hig (h11 ▸ hh)
 ·have := hx.nw i (by show g.no ≤ i; omega) hi
  omega
theorem Rel.putOff (h : Rel d nt e S g a w) {t : Nat} (ho : offT S t = true) (v : Value) : Rel d nt e S g (a.put (some t) v) w := by
 unfold offT at ho
 simp only [Bool.and_eq_true] at ho
 have hp : ∀ p, lk S.tm t = some p → p = .gone := fun p hp => by
  have h1 := ho.1
  rw [hp] at h1
  cases p <;> first | rfl | simp at h1
 have hr : ∀ r, lk S.rt t = some r → r = .dead := fun r hr => by
  have h1 := ho.2
  rw [hr] at h1
  cases r <;> first | rfl | simp at h1
 have hne : ∀ u, u ≠ t → (a.put (some t) v).tmps[u]? = a.tmps[u]? := fun u hu => put_ne a t v hu
 have hg : ∀ u, u ≠ t → (a.put (some t) v).tmps.getD u undef = a.tmps.getD u undef := fun u hu => by
  simp only [Array.getD_eq_getD_getElem?, hne u hu]
 have hh : ∀ {s : Src} {p : PV}, S.at_ s = some p → p ≠ .gone → hdr g (a.put (some t) v) w s = hdr g a w s := fun {s p} hs hpn => by
  cases s with
  | var u =>
   have : u ≠ t := fun e => by subst e; exact hpn (hp _ hs)
   exact hne u this
  | cell b o => rfl
  | vo i => rfl
 refine ⟨by simpa [Act.put] using h.sz, fun u p hu => ?_, h.lc, h.mm, h.no, fun u r hu => ?_, h.wf, by simpa [Act.put] using h.df, h.vl⟩
 ·by_cases hut : u = t
  ·subst hut
   have := hp p hu
   subst this
   exact ⟨(h.tm u _ hu).1, trivial⟩
  ·rw [hg u hut]; exact h.tm u p hu
 ·obtain ⟨h1, h2⟩ := h.rt u r hu
  refine ⟨h1, ?_⟩
  by_cases hut : u = t
  ·subst hut
   have := hr r hu
   subst this
   trivial
  ·rw [hg u hut]
   cases r with
   | pk T xs src => exact ⟨h2.1, fun s hs => ⟨(h2.2 s hs).1, (hh (h2.2 s hs).1 (by simp)).trans (h2.2 s hs).2⟩⟩
   | el s T i off =>
    obtain ⟨xs, b, len, cap, h5, h6, h7⟩ := h2
    exact ⟨xs, b, len, cap, h5, (hh h5 (by simp)).trans h6, h7⟩
   | sl s T lo hi =>
    obtain ⟨xs, q8, q9, q10, q11⟩ := h2
    exact ⟨xs, q8, q9, q10, q11.imp id fun ⟨q, b, len, cap, cap', q12, q13⟩ => ⟨q, b, len, cap, cap', (hh q8 (by simp)).trans q12, q13⟩⟩
   | mr s =>
    obtain ⟨U, es, h5, h6⟩ := h2
    exact ⟨U, es, h5, (hh h5 (by simp)).trans h6⟩
   | dead => trivial
theorem Rel.reObj (h : Rel d nt e S g a w) {b t : Nat} (ho : g.own b = some .obj) (hoa : ∀ i, i < g.no → g.oa i ≠ b) : Rel d nt e S (g.re b (.loc d t)) a w ∧ Keep (fun b' _ => b' = b) g w (g.re b (.loc d t)) w := by
 have hk : Keep (fun b' _ => b' = b) g w (g.re b (.loc d t)) w := ⟨Grow.re g ho, rfl, fun b' κ hb hx => ⟨by simp only [G.re, if_neg hx]; exact hb, rfl⟩⟩
 have hne : ∀ b' κ, g.own b' = some κ → κ ≠ .obj → b' ≠ b := fun b' κ h1 h2 h3 => by subst h3; rw [ho] at h1; exact h2 (Option.some.inj h1).symm
 have hwf : WF (g.re b (.loc d t)) w := by
  refine ⟨gl_mono hk.gr h.wf.gl, fun b' κ hb' => ?_, fun b' C hf => ?_, fun b' b2 j hb' => ?_, h.wf.ol, h.wf.inj, fun i hi => by
   obtain ⟨k0, k1⟩ := h.wf.oe i hi
   exact ⟨by simp only [G.re, if_neg (hoa i hi)]; exact k0, k1⟩⟩
  ·simp only [G.re] at hb'
   split at hb'
   ·rename_i hh; subst hh; exact h.wf.own _ _ ho
   ·exact h.wf.own _ _ hb'
  ·obtain ⟨h1, h2⟩ := h.wf.fz b' C hf
   refine ⟨?_, h2⟩
   have : b' ≠ b := fun hh => by subst hh; rw [ho] at h1; cases h1
   simp only [G.re, if_neg this]; exact h1
  ·simp only [G.re] at hb'
   split at hb'
   ·simp at hb'
   ·exact h.wf.ob _ _ _ hb'
 refine ⟨⟨h.sz, fun u p hp => ?_, fun u cs hu => ?_, fun i cs hi => ?_, h.no, fun u r hr => ?_, hwf, h.df, fun i p hi => ?_⟩, hk⟩
 ·obtain ⟨h1, h2⟩ := h.tm u p hp
  exact ⟨h1, h2.keep hk fun i _ b' hb' hh => hne _ _ hb' (by simp) hh⟩
 ·obtain ⟨h1, C, E, h2, h3⟩ := h.lc u cs hu
  have h4 := hk.own _ _ h1 (hne _ _ h1 (by simp))
  exact ⟨h4.1, C, E, h2, h3.keep hk fun j c _ _ b' hb' hh => hne _ _ hb' (by simp) hh⟩
 ·obtain ⟨h0, h1, C, E, h2, h3⟩ := h.mm i cs hi
  have h4 := hk.own _ _ h1 (hoa i h0)
  exact ⟨h0, h4.1, C, E, h2, h3.keep hk fun j c _ _ b' hb' hh => hne _ _ hb' (by simp) hh⟩
 ·obtain ⟨h1, h2⟩ := h.rt u r hr
  refine ⟨h1, ?_⟩
  have hh : ∀ {s : Src} {p : PV}, S.at_ s = some p → hdr (g.re b (.loc d t)) a w s = hdr g a w s := fun {s p} hs => by
   cases s <;> rfl
  cases r with
  | pk T xs src =>
   refine ⟨?_, fun s hs => ?_⟩
   ·rcases h2.1 with h0 | ⟨b', off, cap, C, E, h3, h4, h5, ⟨κ, h6, h7⟩, h8⟩
    ·exact .inl h0
    ·have h9 : b' ≠ b := hne _ _ h6 (by rintro rfl; exact h7)
     exact .inr ⟨b', off, cap, C, E, h3, h4, h5, ⟨κ, (hk.own _ _ h6 h9).1, h7⟩, fun i x hi => (h8 i x hi).mono hk.gr⟩
   ·exact ⟨(h2.2 s hs).1, (hh (h2.2 s hs).1).trans (h2.2 s hs).2⟩
  | el s T i off =>
   obtain ⟨xs, b', len, cap, h5, h6, h7⟩ := h2
   exact ⟨xs, b', len, cap, h5, (hh h5).trans h6, h7⟩
  | sl s T lo hi =>
   obtain ⟨xs, q8, q9, q10, q11⟩ := h2
   exact ⟨xs, q8, q9, q10, q11.imp id fun ⟨q, b', len, cap, cap', q12, q13⟩ => ⟨q, b', len, cap, cap', (hh q8).trans q12, q13⟩⟩
  | mr s =>
   obtain ⟨U, es, h5, h6⟩ := h2
   exact ⟨U, es, h5, (hh h5).trans h6⟩
  | dead => trivial
 ·obtain ⟨v, h1, h2⟩ := h.vl i p hi
  exact ⟨v, h1, h2.keep hk fun _ b' hb' hh => hne _ _ hb' (by simp) hh⟩
theorem Rel.ghost (hF : F.e = e.isNone) (h : Rel d nt e S g a w) {t b : Nat} {z : List PV} {C : Array Value} {E : TypeId} (ht : t < nt) (ho : g.own b = some .obj) (hoa : ∀ i, i < g.no → g.oa i ≠ b) (hb : w.heap[b]? = some (.cells C E (0, 0)))
  (hs : C.size = z.length) (hpl : z.all PV.plain = true) (hz : ∀ g : G, CellsAt g C 0 z) (hv : a.tmps[t]? = some (.pointer (some ⟨b, 0, none⟩))) :
  ∃ g', Rel d nt e (newVar F t z S) g' a w ∧ (∀ b', b' ≠ b → g'.own b' = g.own b') ∧ Grow g g' ∧ (∀ i, i < g'.no → g'.oa i = b ∨ (i < g.no ∧ g'.oa i = g.oa i)) := by
 have hK : ∀ (g : G) (κ : Nat → Key), RepK g w κ z C := fun g κ => ⟨hs, fun j c hj => by
  obtain ⟨u, h1, h2⟩ := hz g j c hj
  exact ⟨u, by simpa using h1, (plain_key (all_plain hpl hj)).2 h2⟩⟩
 have hgd : a.tmps.getD t undef = .pointer (some ⟨b, 0, none⟩) := by rw [Array.getD_eq_getD_getElem?, hv]; rfl
 unfold newVar
 cases hc : F.e && F.esc t with
 | false =>
  simp only [cond_false]
  obtain ⟨h1, hk⟩ := h.reObj (t := t) ho hoa
  have hown : (g.re b (.loc d t)).own b = some (.loc d t) := by simp [G.re]
  have h2 := h1.newLoc (t := t) (b := b) (cs := z) (C := C) (E := E) hown hb (hK _ _)
  have h3 := h2.setT' (a' := a) (t := t) (p := .ad (.loc t) 0) ht rfl rfl (fun _ _ => rfl) (by rw [hgd]; simp [RepT, RepV, G.lab])
  refine ⟨_, h3, fun b' hb' => ?_, hk.gr.trans ⟨fun _ _ h => h, Nat.le_refl _, fun _ _ => rfl, fun _ _ _ => rfl, rfl, fun _ _ => rfl⟩, fun i hi => .inr ⟨hi, rfl⟩⟩
  simp only [G.lab, G.re, if_neg hb']
 | true =>
  simp only [cond_true]
  simp only [Bool.and_eq_true] at hc
  have hen : e = none := by
   have := hF ▸ hc.1
   cases e <;> simp_all
  subst hen
  have he : S.mm.length = g.no := h.no
  have h2 := h.newObj (b := b) (cs := z) (C := C) (E := E) he ho (fun i hi => hoa i hi) hb (hK _ _)
  have h3 := h2.setT' (a' := a) (t := t) (p := .ad (.obj S.mm.length) 0) ht rfl rfl (fun _ _ => rfl) (by
   rw [hgd]
   have hlt : S.mm.length < (g.obj b E).no := by simp [G.obj, he]
   have := RepF.ad (g := g.obj b E) S.mm.length 0 hlt
   have hoa2 : (g.obj b E).oa S.mm.length = b := by simp [G.obj, he]
   rw [hoa2] at this; exact this)
  have k2 := keep_obj g b E (h.wf.nfz ho) hoa w
  refine ⟨_, h3, fun b' hb' => rfl, k2.gr, fun i hi => ?_⟩
  simp only [G.obj] at hi ⊢
  by_cases hio : i = g.no
  ·subst hio; left; simp
  ·right; rw [if_neg hio]; exact ⟨by omega, rfl⟩
theorem Inv.ghost (hb0 : Base0 e m0 g0 w0) (hF : F.e = e.isNone) (h : Inv xb d nt e m0 g0 w0 S g a w) {t b : Nat} {z : List PV} {C : Array Value} {E : TypeId} (ht : t < nt) (ho : g.own b = some .obj) (hoa : ∀ i, i < g.no → g.oa i ≠ b) (hb : w.heap[b]? = some (.cells C E (0, 0)))
  (hs : C.size = z.length) (hpl : z.all PV.plain = true) (hz : ∀ g : G, CellsAt g C 0 z) (hv : a.tmps[t]? = some (.pointer (some ⟨b, 0, none⟩))) (hge : w0.heap.size ≤ b) :
  ∃ g', Inv xb d nt e m0 g0 w0 (newVar F t z S) g' a w ∧ (∀ b', b' ≠ b → g'.own b' = g.own b') ∧ (∀ i, i < g'.no → g'.oa i = b ∨ (i < g.no ∧ g'.oa i = g.oa i)) := by
 obtain ⟨g', h1, h2, h3, h4⟩ := h.rel.ghost hF ht ho hoa hb hs hpl hz hv
 refine ⟨g', ⟨h1, ?_, fun hx => h3.va.trans (h.va hx)⟩, h2, h4⟩
 rw [h3.va]
 refine ⟨h.ext.gr.trans h3, fun b' κ hb' hout => ?_, h.ext.hs, fun i h5 h6 => ?_, h.ext.sl⟩
 ·obtain ⟨h5, h6⟩ := h.ext.own b' κ hb' hout
  have := hb0.own b' κ hb'
  exact ⟨by rw [h2 b' (by omega)]; exact h5, h6⟩
 ·rcases h4 i h6 with h7 | ⟨h7, h8⟩
  ·rw [h7]; exact hge
  ·rw [h8]; exact h.ext.nw i h5 h7
theorem isAl_form {o : Oper} (h : isAl o = true) : ∃ T dd, o.op = .alloc T ∧ o.dst = some dd ∧ o.guard = none := by
 unfold isAl at h
 split at h
 ·rename_i T dd h1 h2 h3; exact ⟨T, dd, h1, h2, h3⟩
 ·simp at h
theorem offA_spec {o : Oper} : ∀ {s : List Oper}, offA F S s = true → o ∈ s → isAl o = true → ∃ T dd z, o.op = .alloc T ∧ o.dst = some dd ∧ dd < F.nt ∧ offT S dd = true ∧ (F.xt dd = false ∧ F.T.sf T = false) ∧ F.T.zr T = some z := by
 intro s
 induction s with
 | nil => intro _ hm _; simp at hm
 | cons x s ih =>
  intro h hm ha
  simp only [offA, Bool.and_eq_true] at h
  rcases List.mem_cons.1 hm with rfl | hm
  ·obtain ⟨T, dd, h1, h2, _⟩ := isAl_form ha
   have h3 := h.1.1
   rw [ha, h1, h2] at h3
   simp only [Bool.and_eq_true, Bool.not_eq_true'] at h3
   obtain ⟨z, hz⟩ := Option.isSome_iff_exists.1 h3.2
   exact ⟨T, dd, z, h1, h2, by simpa using h3.1.1.1.1, h3.1.1.1.2, ⟨h3.1.1.2, h3.1.2⟩, hz⟩
  ·exact ih h.2 hm ha
theorem offD_spec {d : Option Nat} {o : Oper} : ∀ {s : List Oper}, offD d s = true → o ∈ s → isAl o = true → ∀ t, o.dst = some t → d ≠ some t := by
 intro s
 induction s with
 | nil => intro _ hm; simp at hm
 | cons x s ih =>
  intro h hm ha t ht hd
  simp only [offD, Bool.and_eq_true] at h
  rcases List.mem_cons.1 hm with rfl | hm
  ·have h3 := h.1
   rw [ha, hd, ht] at h3
   simp at h3
  ·exact ih h.2 hm ha t ht hd
theorem offA_ne : ∀ (l : List Nat) (s : List Oper), l.map (fun i => ops[i]?) = s.map some → offA F S s = true → ∀ {j k : Nat} {oj ok : Oper}, j ∈ l → k ∈ l → j ≠ k → ops[j]? = some oj → ops[k]? = some ok → isAl oj = true → isAl ok = true →
  ∀ t, oj.dst = some t → ok.dst ≠ some t := by
 intro l
 induction l with
 | nil => intro s _ _ j k oj ok hj; simp at hj
 | cons i l ih =>
  intro s hl h j k oj ok hj hk hne hoj hok haj hak t ht
  cases s with
  | nil => simp at hl
  | cons o s =>
  simp only [List.map_cons, List.cons.injEq] at hl
  simp only [offA, Bool.and_eq_true] at h
  have mem : ∀ {k : Nat} {ok : Oper}, k ∈ l → ops[k]? = some ok → ok ∈ s := fun {k ok} hk hok => by
   have : some ok ∈ l.map (fun i => ops[i]?) := List.mem_map.2 ⟨k, hk, hok⟩
   rw [hl.2] at this
   obtain ⟨x, hx1, hx2⟩ := List.mem_map.1 this
   exact Option.some.inj hx2 ▸ hx1
  rcases List.mem_cons.1 hj with h1 | h1 <;> rcases List.mem_cons.1 hk with h2 | h2
  ·exact absurd (h1.trans h2.symm) hne
  ·subst h1
   rw [hoj] at hl
   cases hl.1
   intro hd
   exact offD_spec h.1.2 (mem h2 hok) hak t hd ht
  ·subst h2
   rw [hok] at hl
   cases hl.1
   exact offD_spec h.1.2 (mem h1 hoj) haj t ht
  ·exact ih s hl.2 h.2 h1 h2 hne hoj hok haj hak t ht
theorem evOps_al {β : Type} {res : β} {K : St → Option β} {o : Oper} {T dd : Nat} {z : List PV} (ha : isAl o = true) (h1 : o.op = .alloc T) (h2 : o.dst = some dd) (hz : F.T.zr T = some z) (hx0 : F.xt dd = false ∧ F.T.sf T = false)
  (h : evOps F C ops [o] S K = some res) : K (newVar F dd z S) = some res := by
 obtain ⟨_, _, _, _, hg⟩ := isAl_form ha
 obtain ⟨hx, hsf⟩ := hx0
 simp only [evOps, hg, h2, extD, hx, cond_false] at h
 unfold evOp at h
 simp only [h1, stp, h2, stp1, opAlloc, hz, yes, Option.map_some, hsf, Bool.false_and, cond_false] at h
 cases hbt : Nat.blt dd F.nt with
 | false => simp [hbt] at h
 | true => simpa [hbt] using h
theorem Early.new (hx : FxOk P F e nt xb) (hb : Base0 e m0 g0 w0) (hi : Inv xb d nt e m0 g0 w0 S g a w) {k : Nat} {o : Oper} (ho : ops[k]? = some o) (ha : isAl o = true) {T dd : Nat} {z : List PV} (h1 : o.op = .alloc T) (h2 : o.dst = some dd)
  (hlt : dd < F.nt) (hoff : offT S dd = true) (hz : F.T.zr T = some z) {N : Act → World → Prop}
  (next : ∀ ob, Inv xb d nt e m0 g0 w0 S (g.new w.heap.size .obj) (a.put (some dd) (.pointer (some ⟨w.heap.size, 0, none⟩))) (w.alloc ob) →
   Early F ops (g.new w.heap.size .obj) (a.put (some dd) (.pointer (some ⟨w.heap.size, 0, none⟩))) (w.alloc ob) k w.heap.size → N (a.put (some dd) (.pointer (some ⟨w.heap.size, 0, none⟩))) (w.alloc ob)) : opX P F ops k N a w := by
 obtain ⟨i, v, q1, q2, q3, q4, q5, q6, q7, q8⟩ := hx.T.zr _ _ hz
 have hrun : (execOp a.eval o).run P w = .ok (.value (.pointer (some ⟨w.heap.size, 0, none⟩))) (w.alloc (.cells v.cells T)) := by
  simp [execOp, h1, Instr.alloc, zeroValue, typeInfo, q1, q2, Go.newVar, newRow, Result.andThen]
 have hdd : dd < a.tmps.size := by rw [hi.rel.sz]; rw [← hx.nt]; exact hlt
 have hv : (a.put (some dd) (.pointer (some ⟨w.heap.size, 0, none⟩))).tmps[dd]? = some (.pointer (some ⟨w.heap.size, 0, none⟩)) := by
  simp [Act.put, Array.getElem?_setIfInBounds, hdd]
 unfold opX
 simp only [ho]
 rw [if_pos (al_wanted ha a)]
 refine ⟨_, _, hrun, fun hs => ?_, ?_⟩
 ·rw [h1] at hs; simp [stabOp, indepOp] at hs
 ·show N (a.put o.dst _) _
  rw [h2]
  refine next _ ?_ ?_
  ·have r1 := (hi.rel.alloc (.cells v.cells T) .obj (fun _ _ hh => by simp at hh)).putOff hoff (.pointer (some ⟨w.heap.size, 0, none⟩))
   exact hi.go hb r1 (ext_alloc hi.rel.wf _ _ _)
  ·exact ⟨⟨o, T, dd, z, v.cells, T, ho, ha, h1, h2, hz, hv, heap_alloc_new w _, q4, q5, q6⟩, by simp [G.new], fun i hi' => by
    have := hi.rel.wf.ol i hi'
    show g.oa i ≠ _
    omega⟩
theorem evX_ok {β : Type} {res : β} (hb : Base0 e m0 g0 w0) (hx : FxOk P F e nt xb) (hC : CTabOk P C) {K : St → Option β} {N : Act → World → Prop}
  (next : ∀ S' g' a' w', K S' = some res → Inv xb d nt e m0 g0 w0 S' g' a' w' → N a' w') :
  ∀ (n : Nat) (s : List Oper) (l E : List Nat) (B : Nat → Nat) (S : St) (g : G) (a : Act) (w : World), l.length + (l.filter fun i => !E.contains i).length = n → l.map (fun i => ops[i]?) = s.map some → l.Nodup →
   (∀ k ∈ E, k ∈ l) → (∀ k ∈ E, Early F ops g a w k (B k) ∧ w0.heap.size ≤ B k) → (∀ k ∈ E, ∀ k' ∈ E, k ≠ k' → B k ≠ B k') → E.Nodup → Inv xb d nt e m0 g0 w0 S g a w → evX F C ops s S K = some res →
   opsX P F ops N (l.filter fun i => !E.contains i).length (l.filter fun i => !E.contains i) a w := by
 intro n
 induction n using Nat.strongRecOn with
 | ind n ih =>
 intro s l E B S g a w hn hl hnd hEl hE hB hEn hi h
 cases l with
 | nil =>
  cases s with
  | nil => exact ⟨rfl, next _ _ _ _ h hi⟩
  | cons o s => simp at hl
 | cons i l =>
 cases s with
 | nil => simp at hl
 | cons o s =>
 have hl0 := hl
 simp only [List.map_cons, List.cons.injEq] at hl
 obtain ⟨ho, hl⟩ := hl
 have h0 := h
 simp only [evX] at h
 cases hoff : offA F S (o :: s) with
 | false => rw [hoff] at h; simp at h
 | true =>
 rw [hoff] at h
 simp only [cond_true] at h
 have hoD : offD o.dst s = true := by
  have h1 := hoff
  simp only [offA, Bool.and_eq_true] at h1
  exact h1.1.2
 have hmm : S.mm.length ≤ g.no := by
  have := hi.rel.no
  cases e with
  | none => exact Nat.le_of_eq this
  | some k => have := this.1; omega
 have hil : i ∉ l := (List.nodup_cons.1 hnd).1
 have hln : l.Nodup := (List.nodup_cons.1 hnd).2
 have memS : ∀ {k : Nat} {ok : Oper}, k ∈ i :: l → ops[k]? = some ok → ok ∈ o :: s := fun {k ok} hk hok => by
  have : some ok ∈ (i :: l).map (fun i => ops[i]?) := List.mem_map.2 ⟨k, hk, hok⟩
  rw [hl0] at this
  obtain ⟨x, hx1, hx2⟩ := List.mem_map.1 this
  exact Option.some.inj hx2 ▸ hx1
 have hsz0 : w0.heap.size ≤ w.heap.size := hi.ext.hs
 by_cases hiE : i ∈ E
 ·have hfil : ((i :: l).filter fun x => !E.contains x) = l.filter fun x => !E.contains x := by
   rw [List.filter_cons_of_neg (by simpa using hiE)]
  have hfil2 : (l.filter fun x => !E.contains x) = l.filter fun x => !(E.erase i).contains x := by
   refine List.filter_congr fun x hx => ?_
   have hne : x ≠ i := fun hh => by subst hh; exact hil hx
   have h1 : x ∈ E ↔ x ∈ E.erase i := (List.mem_erase_of_ne hne).symm
   by_cases hxE : x ∈ E
   ·simp [hxE, h1.1 hxE]
   ·have : x ∉ E.erase i := fun hh => hxE (h1.2 hh)
    simp [hxE, this]
  rw [hfil, hfil2]
  obtain ⟨⟨⟨o', T, dd, z, C', E', q1, q2, q3, q4, q5, q6, q7, q8, q9, q10⟩, hown, hoa⟩, hge⟩ := hE i hiE
  rw [ho] at q1
  obtain rfl := Option.some.inj q1
  obtain ⟨T2, dd2, z2, p1, p2, p3, p4, p5, p6⟩ := offA_spec hoff (List.mem_cons_self ..) q2
  rw [q3] at p1; rw [q4] at p2
  obtain rfl := Op.alloc.inj p1
  obtain rfl := Option.some.inj p2
  rw [q5] at p6
  obtain rfl := Option.some.inj p6
  have hev := evOps_al q2 q3 q4 q5 p5 h
  obtain ⟨g', k1, k2, k3⟩ := hi.ghost hb hx.e (by rw [← hx.nt]; exact p3) hown hoa q7 q8 q9 q10 q6 hge
  have hEi : ∀ k ∈ E.erase i, k ∈ E ∧ k ≠ i := fun k hk => ⟨List.mem_of_mem_erase hk, fun hh => by subst hh; exact List.Nodup.not_mem_erase hEn hk⟩
  refine ih (l.length + (l.filter fun x => !(E.erase i).contains x).length) ?_ s l (E.erase i) B _ g' a w rfl hl hln (fun k hk => ?_) (fun k hk => ?_) (fun k hk k' hk' => hB k (hEi k hk).1 k' (hEi k' hk').1) (hEn.erase i) k1 hev
  ·rw [← hn, hfil, hfil2]; simp only [List.length_cons]; omega
  ·rcases List.mem_cons.1 (hEl k (hEi k hk).1) with h1 | h1
   ·exact absurd h1 (hEi k hk).2
   ·exact h1
  ·obtain ⟨⟨hk1, hk2, hk3⟩, hk4⟩ := hE k (hEi k hk).1
   have hne := hB k (hEi k hk).1 i hiE (hEi k hk).2
   refine ⟨⟨hk1, by rw [k2 _ hne]; exact hk2, fun j hj hh => ?_⟩, hk4⟩
   rcases k3 j hj with h1 | ⟨h1, h2⟩
   ·exact hne (hh.symm.trans h1)
   ·exact hk3 j h1 (h2.symm.trans hh)
 ·have hfil : ((i :: l).filter fun x => !E.contains x) = i :: l.filter fun x => !E.contains x := by
   rw [List.filter_cons_of_pos (by simpa using hiE)]
  have hEl' : ∀ k ∈ E, k ∈ l := fun k hk => by
   rcases List.mem_cons.1 (hEl k hk) with h1 | h1
   ·subst h1; exact absurd hk hiE
   ·exact h1
  rw [hfil] at hn ⊢
  refine ⟨?_, fun k ⟨hk, hka⟩ => ?_⟩
  ·-- the text's next
   have hb' : Base0 e S.mm.length g w := ⟨hi.rel.no, hi.rel.wf.own, hi.rel.wf.ob⟩
   have hi' : Inv xb d nt e S.mm.length g w S g a w := ⟨hi.rel, Ext.refl _ _ _ _, fun _ => rfl⟩
   refine opX_mono (fun a' w' hh => ?_) (opX_tmp ho (evOps1_X hb' hx hC hi' ho h))
   obtain ⟨ht, S', g', hK, hi2⟩ := hh
   refine ih (l.length + (l.filter fun x => !E.contains x).length) ?_ s l E B S' g' a' w' rfl hl hln hEl' (fun k hk => ⟨?_, (hE k hk).2⟩) hB hEn (hi.rebase hb hi2) hK
   ·rw [← hn]; simp only [List.length_cons]; omega
   ·have hk2 := (hE k hk).1
    refine hk2.go (e := e) (fun he => ?_) hmm hi2.ext (hi.rel.wf.own _ _ hk2.own) fun ok dd h1 h2 => ht dd ?_
    ·cases e with
     | none => exact hi.rel.no
     | some k => simp at he
    ·have hal : isAl ok = true := by
      obtain ⟨o', _, _, _, _, _, q1, q2, _⟩ := hk2.is
      rw [h1] at q1; cases q1; exact q2
     have hmem : ok ∈ s := by
      have : some ok ∈ l.map (fun i => ops[i]?) := List.mem_map.2 ⟨k, hEl' k hk, h1⟩
      rw [hl] at this
      obtain ⟨x, hx1, hx2⟩ := List.mem_map.1 this
      exact Option.some.inj hx2 ▸ hx1
     exact offD_spec hoD hmem hal dd h2
  ·-- a new variable comes early
   have hkl : k ∈ i :: l := by
    rcases List.mem_cons.1 hk with h1 | h1
    ·exact h1 ▸ List.mem_cons_self ..
    ·exact List.mem_cons_of_mem _ (List.mem_filter.1 h1).1
   have hkE : k ∉ E := by
    rcases List.mem_cons.1 hk with h1 | h1
    ·exact h1 ▸ hiE
    ·simpa using (List.mem_filter.1 h1).2
   obtain ⟨ok, hok, hal⟩ : ∃ ok, ops[k]? = some ok ∧ isAl ok = true := by
    unfold alAt at hka
    split at hka
    ·rename_i ok hok; exact ⟨ok, hok, hka⟩
    ·simp at hka
   obtain ⟨T, dd, z, p1, p2, p3, p4, p5, p6⟩ := offA_spec hoff (memS hkl hok) hal
   refine Early.new hx hb hi hok hal p1 p2 p3 p4 p6 fun ob hi2 hea => ?_
   have hset : ((i :: l).filter fun x => !(k :: E).contains x) = (i :: l.filter fun x => !E.contains x).erase k := by
    rw [← hfil, List.Nodup.erase_eq_filter (List.Pairwise.filter _ hnd), List.filter_filter]
    refine List.filter_congr fun x _ => ?_
    simp only [List.contains_cons, Bool.not_or]
    rfl
   have hlen : ((i :: l.filter fun x => !E.contains x).erase k).length = (l.filter fun x => !E.contains x).length := by
    rw [List.length_erase_of_mem hk]; simp
   have hB' : ∀ j ∈ E, B j < w.heap.size := fun j hj => hi.rel.wf.own _ _ (hE j hj).1.own
   have := ih ((i :: l).length + ((i :: l).filter fun x => !(k :: E).contains x).length) (by rw [hset, hlen, ← hn]; simp) (o :: s) (i :: l) (k :: E) (fun j => if j = k then w.heap.size else B j) S _ _ _ rfl hl0 hnd
    (fun j hj => by
     rcases List.mem_cons.1 hj with h1 | h1
     ·exact h1 ▸ hkl
     ·exact hEl j h1)
    (fun j hj => by
     rcases List.mem_cons.1 hj with h1 | h1
     ·subst h1; rw [if_pos rfl]; exact ⟨hea, hsz0⟩
     ·have hne : j ≠ k := fun hh => by subst hh; exact hkE h1
      rw [if_neg hne]
      refine ⟨(hE j h1).1.go (e := e) (fun he => ?_) hmm (f := g.va) (ext_alloc (d := d) hi.rel.wf S.mm.length ob .obj) (hB' j h1) fun oj dj h2 h3 => ?_, (hE j h1).2⟩
      ·cases e with
       | none => exact hi.rel.no
       | some k => simp at he
      ·refine put_ne a dd _ fun hh => ?_
       subst hh
       have hje := (hE j h1).1
       have haj : isAl oj = true := by
        obtain ⟨o', _, _, _, _, _, q1, q2, _⟩ := hje.is
        rw [h2] at q1; cases q1; exact q2
       exact offA_ne (i :: l) (o :: s) hl0 hoff (hEl j h1) hkl hne h2 hok haj hal _ h3 p2)
    (fun j hj j' hj' hne => by
     rcases List.mem_cons.1 hj with h1 | h1 <;> rcases List.mem_cons.1 hj' with h2 | h2
     ·exact absurd (h1.trans h2.symm) hne
     ·subst h1
      have h3 : j' ≠ j := Ne.symm hne
      rw [if_pos rfl, if_neg h3]; have := hB' j' h2; omega
     ·subst h2
      rw [if_pos rfl, if_neg hne]; have := hB' j h1; omega
     ·have h3 : j ≠ k := fun hh => by subst hh; exact hkE h1
      have h4 : j' ≠ k := fun hh => by subst hh; exact hkE h2
      rw [if_neg h3, if_neg h4]; exact hB j h1 j' h2 hne)
    (List.nodup_cons.2 ⟨hkE, hEn⟩) hi2 h0
   rw [hset, hlen] at this
   exact this
theorem drawX_ok {β : Type} {res : β} (hb : Base0 e m0 g0 w0) (hx : FxOk P F e nt xb) (hC : CTabOk P C) (hmix : P.follows .mixedOrders = true) {K : St → Option β} (hck : drawX F ops = true) {N : Act → World → Prop}
  (hi : Inv xb d nt e m0 g0 w0 S g a w) (h : evX F C ops ops.toList S K = some res)
  (next : ∀ S' g' a' w', K S' = some res → Inv xb d nt e m0 g0 w0 S' g' a' w' → N a' w') (t : Nat) : wpOps P ops (fun e a w => e = .normal ∧ N a w) (Region.schedule (P.follows .mixedOrders) ops t) a w := by
 have hidx : (List.range ops.size).map (fun i => ops[i]?) = ops.toList.map some := by
  apply List.ext_getElem?
  intro i
  simp only [List.getElem?_map, Array.getElem?_toList]
  by_cases hi : i < ops.size <;> simp [hi]
 have h1 := evX_ok (ops := ops) hb hx hC next _ ops.toList (List.range ops.size) [] (fun _ => 0) S g a w rfl hidx List.nodup_range (fun k hk => by simp at hk) (fun k hk => by simp at hk) (fun k hk => by simp at hk) List.nodup_nil hi h
 have hf : ((List.range ops.size).filter fun i => !([] : List Nat).contains i) = List.range ops.size := by simp
 rw [hf, List.length_range] at h1
 have hfa : ∀ i, (Array.replicate ops.size false).getD i false = false := fun i => by
  simp only [Array.getD_eq_getD_getElem?, Array.getElem?_replicate]
  split <;> rfl
 have h2 := opsX_any hx.T (drawX_spec hck) ops.size (Array.replicate ops.size false) (List.range ops.size) a w (by simp) List.pairwise_lt_range (by simp) (fun i hi => by
   rw [hfa i] at hi; cases hi) (fun i => by rw [hfa i]; simp) h1
 simp only [Region.schedule, hmix, Bool.true_or, if_true]
 exact wpAny_sound ops.size t _ a _ h2
end
end
end Go.KM
