/- Plain laws: a machine's frames, one after another. Conditions: none. -/
import Derived.Test.YtojkcmefnmcpiaaGreatDoorMPd
namespace Go.KM.M1
open Go Go.KM
open Go.KM.Fam (Dn dflt)
open Go.KM.Enc (cells sz mkE glob gany u8)
set_option autoImplicit false
set_option linter.unusedVariables false
set_option linter.unusedSimpArgs false
set_option maxRecDepth 100000
section
def frontB (m : TMachine) (w : Int) (f : TFrame) : Bool :=
 (decide (f.gCode = w) || decide (f.gCode = w + 1)) && ((decide (0 ≤ f.gCode) && decide (f.gCode < (m.gCodes.length : Int))) && ((decide (0 ≤ f.gFn) && decide (f.gFn < ((m.gCodes.getD f.gCode.toNat TCode.z).gFns.length : Int))) &&
  (decide (f.gCode = w) || decide (((m.gCodes.getD f.gCode.toNat TCode.z).gFns.getD f.gFn.toNat TFn.z).gName = ⟨#[109, 97, 105, 110]⟩))))
theorem nmain {x : ByteArray} : (!bEq x ⟨#[109, 97, 105, 110]⟩) = decide (x ≠ ⟨#[109, 97, 105, 110]⟩) := by rw [bEq_dec]; simp
theorem I_front (m : TMachine) (n : Int) (known : List (ByteArray × Option (List TShape))) (i w : Int) (t46 : List TFrame) (t47 t48 : Int) (f : TFrame) (hw : -1 ≤ w ∧ w ≤ 1048576) :
  I.Machine_framesOk.l64103 n known i w t46 t47 t48 f m.gCodes m.gArgs m.gOuts m.gFrames m.gSteps m.gLooks m.gKind m.gName m.gHold m.gOver m.gEnd m.gText m.gFiles m.gSaid = bif frontB m w f then (bif decide (f.gAt < 0) then some (false, (m.gCodes, (m.gArgs, (m.gOuts, (m.gFrames, (m.gSteps, (m.gLooks, (m.gKind, (m.gName, (m.gHold, (m.gOver, (m.gEnd, (m.gText, (m.gFiles, m.gSaid)))))))))))))) else
  bif decide (f.gAt ≥ (((m.gCodes.getD f.gCode.toNat TCode.z).gFns.getD f.gFn.toNat TFn.z).gIns.length : Int)) then some (false, (m.gCodes, (m.gArgs, (m.gOuts, (m.gFrames, (m.gSteps, (m.gLooks, (m.gKind, (m.gName, (m.gHold, (m.gOver, (m.gEnd, (m.gText, (m.gFiles, m.gSaid)))))))))))))) else
  bif foC ((mget known (ik f.gCode f.gFn)).getD none) then
   bif Option.isNone ((mget known (ik f.gCode f.gFn)).getD none) then
    (I.shapes (m.gCodes.getD f.gCode.toNat TCode.z) f.gFn).bind fun (r0 : (Option (List TShape) × Int)) =>
     I.Machine_framesOk.l8205311 n (mset known (ik f.gCode f.gFn) r0.fst) i r0.fst t46 t47 t48 f (m.gCodes.getD f.gCode.toNat TCode.z) ((m.gCodes.getD f.gCode.toNat TCode.z).gFns.getD f.gFn.toNat TFn.z) m.gCodes m.gArgs m.gOuts m.gFrames m.gSteps m.gLooks m.gKind m.gName m.gHold m.gOver m.gEnd m.gText m.gFiles m.gSaid
   else I.Machine_framesOk.l8205311 n known i ((mget known (ik f.gCode f.gFn)).getD none) t46 t47 t48 f (m.gCodes.getD f.gCode.toNat TCode.z) ((m.gCodes.getD f.gCode.toNat TCode.z).gFns.getD f.gFn.toNat TFn.z) m.gCodes m.gArgs m.gOuts m.gFrames m.gSteps m.gLooks m.gKind m.gName m.gHold m.gOver m.gEnd m.gText m.gFiles m.gSaid
  else none) else some (false, (m.gCodes, (m.gArgs, (m.gOuts, (m.gFrames, (m.gSteps, (m.gLooks, (m.gKind, (m.gName, (m.gHold, (m.gOver, (m.gEnd, (m.gText, (m.gFiles, m.gSaid)))))))))))))) := by
 rw [I.Machine_framesOk.l64103_eq, wi (by omega) (by omega)]
 unfold frontB
 by_cases h1 : f.gCode = w
 ·rw [bif_f (b := f.gCode != w) (nef h1), decide_eq_true h1, Bool.true_or, Bool.true_and, Bool.true_or, Bool.and_true]
  by_cases h2 : f.gCode < 0
  ·rw [bif_t (b := decide (f.gCode < 0)) (decide_eq_true h2), decide_eq_false (show ¬ 0 ≤ f.gCode by omega)]; rfl
  ·rw [bif_f (b := decide (f.gCode < 0)) (decide_eq_false h2), decide_eq_true (show 0 ≤ f.gCode by omega), Bool.true_and]
   by_cases h3 : f.gCode < (m.gCodes.length : Int)
   ·rw [bif_f (b := decide (f.gCode ≥ (m.gCodes.length : Int))) (decide_eq_false (by omega)), decide_eq_true h3, Bool.true_and, bif_t (b := inB f.gCode m.gCodes.length) (inB_iff.2 ⟨by omega, h3⟩)]
    by_cases h4 : f.gFn < 0
    ·rw [bif_t (b := decide (f.gFn < 0)) (decide_eq_true h4), decide_eq_false (show ¬ 0 ≤ f.gFn by omega)]; rfl
    ·rw [bif_f (b := decide (f.gFn < 0)) (decide_eq_false h4), decide_eq_true (show 0 ≤ f.gFn by omega), Bool.true_and]
     by_cases h5 : f.gFn < ((m.gCodes.getD f.gCode.toNat TCode.z).gFns.length : Int)
     ·rw [bif_f (b := decide (f.gFn ≥ ((m.gCodes.getD f.gCode.toNat TCode.z).gFns.length : Int))) (decide_eq_false (by omega)), decide_eq_true h5, cond_true, bif_f (b := f.gCode == w + 1) (eqf (by omega)), bif_t (b := inB f.gFn (m.gCodes.getD f.gCode.toNat TCode.z).gFns.length) (inB_iff.2 ⟨by omega, h5⟩)]
     ·rw [bif_t (b := decide (f.gFn ≥ ((m.gCodes.getD f.gCode.toNat TCode.z).gFns.length : Int))) (decide_eq_true (by omega)), decide_eq_false h5]; rfl
   ·rw [bif_t (b := decide (f.gCode ≥ (m.gCodes.length : Int))) (decide_eq_true (by omega)), decide_eq_false h3]; rfl
 ·rw [bif_t (b := f.gCode != w) (net h1), decide_eq_false h1, Bool.false_or, Bool.false_or]
  by_cases h1' : f.gCode = w + 1
  ·rw [bif_f (b := f.gCode != w + 1) (nef h1'), decide_eq_true h1', Bool.true_and]
   by_cases h2 : f.gCode < 0
   ·rw [bif_t (b := decide (f.gCode < 0)) (decide_eq_true h2), decide_eq_false (show ¬ 0 ≤ f.gCode by omega)]; rfl
   ·rw [bif_f (b := decide (f.gCode < 0)) (decide_eq_false h2), decide_eq_true (show 0 ≤ f.gCode by omega), Bool.true_and]
    by_cases h3 : f.gCode < (m.gCodes.length : Int)
    ·rw [bif_f (b := decide (f.gCode ≥ (m.gCodes.length : Int))) (decide_eq_false (by omega)), decide_eq_true h3, Bool.true_and, bif_t (b := inB f.gCode m.gCodes.length) (inB_iff.2 ⟨by omega, h3⟩)]
     by_cases h4 : f.gFn < 0
     ·rw [bif_t (b := decide (f.gFn < 0)) (decide_eq_true h4), decide_eq_false (show ¬ 0 ≤ f.gFn by omega)]; rfl
     ·rw [bif_f (b := decide (f.gFn < 0)) (decide_eq_false h4), decide_eq_true (show 0 ≤ f.gFn by omega), Bool.true_and]
      by_cases h5 : f.gFn < ((m.gCodes.getD f.gCode.toNat TCode.z).gFns.length : Int)
      ·rw [bif_f (b := decide (f.gFn ≥ ((m.gCodes.getD f.gCode.toNat TCode.z).gFns.length : Int))) (decide_eq_false (by omega)), decide_eq_true h5, Bool.true_and, bif_t (b := f.gCode == w + 1) (eqt h1'), bif_t (b := inB f.gFn (m.gCodes.getD f.gCode.toNat TCode.z).gFns.length) (inB_iff.2 ⟨by omega, h5⟩), nmain]
       by_cases h6 : ((m.gCodes.getD f.gCode.toNat TCode.z).gFns.getD f.gFn.toNat TFn.z).gName = ⟨#[109, 97, 105, 110]⟩
       ·rw [decide_eq_false (fun h => h h6), decide_eq_true h6, cond_false, bif_t (b := inB f.gFn (m.gCodes.getD f.gCode.toNat TCode.z).gFns.length) (inB_iff.2 ⟨by omega, h5⟩)]; rfl
       ·rw [decide_eq_true (show _ ≠ _ from h6), decide_eq_false h6]; rfl
      ·rw [bif_t (b := decide (f.gFn ≥ ((m.gCodes.getD f.gCode.toNat TCode.z).gFns.length : Int))) (decide_eq_true (by omega)), decide_eq_false h5]; rfl
    ·rw [bif_t (b := decide (f.gCode ≥ (m.gCodes.length : Int))) (decide_eq_true (by omega)), decide_eq_false h3]; rfl
  ·rw [bif_t (b := f.gCode != w + 1) (net h1'), decide_eq_false h1']; rfl
theorem main_at {c : TCode} (hV : Valid c) {r fi : Nat} (hr : r < c.gFns.length) (hm : c.gFns[r].gName = ⟨#[109, 97, 105, 110]⟩) (hfi : fi < c.gFns.length) : c.gFns[fi].gName = ⟨#[109, 97, 105, 110]⟩ ↔ fi = r := by
 refine ⟨fun h => ?_, fun h => by subst h; exact hm⟩
 have key : ∀ (a b : Nat) (ha : a < c.gFns.length) (hb : b < c.gFns.length), a < b → c.gFns[a].gName = ⟨#[109, 97, 105, 110]⟩ → c.gFns[b].gName = ⟨#[109, 97, 105, 110]⟩ → False := fun a b ha hb hab h1 h2 => by
  have := hV.nm b hb
  unfold newName at this
  rw [List.all_eq_true] at this
  have := this c.gFns[a] (List.mem_take_iff_getElem.2 ⟨a, by omega, rfl⟩)
  rw [h1, h2] at this
  simp at this
 rcases Nat.lt_trichotomy fi r with h1 | h1 | h1
 ·exact (key fi r hfi hr h1 h hm).elim
 ·exact h1
 ·exact (key r fi hr hfi h1 hm h).elim
theorem R_front (m : TMachine) (n k w : Int) (f : TFrame) (hw : -1 ≤ w ∧ w ≤ 1048576) (hl : m.gCodes.length ≤ 40) (hV : ∀ ci (h : ci < m.gCodes.length), Valid m.gCodes[ci]) :
  R.l9FramesOk.l15655 n k w m f = bif frontB m w f then R.l9FramesOk.l244 n (IntKind.i64.wrap (k + 1)) m else some false := by
 rw [R.l9FramesOk.l15655_eq, R_in, Option.bind_some, R_in, Option.bind_some, wi (by omega) (by omega), wi (n := (m.gCodes.length : Int) - 1) (by omega) (by omega)]
 unfold frontB
 by_cases hc : 0 ≤ f.gCode ∧ f.gCode < (m.gCodes.length : Int)
 ·obtain ⟨ci, hci⟩ : ∃ ci : Nat, f.gCode = (ci : Int) := ⟨f.gCode.toNat, by omega⟩
  have hcl : ci < m.gCodes.length := by omega
  rw [hci, Int.toNat_natCast, getD_lt hcl]
  have hVc := hV ci hcl
  generalize m.gCodes[ci] = c at hVc
  have hcn := hVc.co.n
  obtain ⟨r, hr1, hr2, hr3⟩ := hVc.mn
  rw [wi (n := (c.gFns.length : Int) - 1) (by omega) (by omega), decide_eq_true (show (0 : Int) ≤ (ci : Int) by omega), decide_eq_true (show (ci : Int) ≤ (m.gCodes.length : Int) - 1 by omega), decide_eq_true (show (ci : Int) < (m.gCodes.length : Int) by omega), bif_t (inB_nat hcl), hr1, Option.bind_some]
  rw [show (bif !(true && true) then some false else (bif !(decide (0 ≤ f.gFn) && decide (f.gFn ≤ (c.gFns.length : Int) - 1)) then some false else bif (ci : Int) != w then bif inB (ci : Int) m.gCodes.length then bif f.gFn != (r : Int) then some false else R.l9FramesOk.l244 n (IntKind.i64.wrap (k + 1)) m else none else R.l9FramesOk.l244 n (IntKind.i64.wrap (k + 1)) m)) = (bif !(decide (0 ≤ f.gFn) && decide (f.gFn ≤ (c.gFns.length : Int) - 1)) then some false else bif (ci : Int) != w then bif inB (ci : Int) m.gCodes.length then bif f.gFn != (r : Int) then some false else R.l9FramesOk.l244 n (IntKind.i64.wrap (k + 1)) m else none else R.l9FramesOk.l244 n (IntKind.i64.wrap (k + 1)) m) from rfl]
  by_cases hf : 0 ≤ f.gFn ∧ f.gFn < (c.gFns.length : Int)
  ·obtain ⟨fi, hfi⟩ : ∃ fi : Nat, f.gFn = (fi : Int) := ⟨f.gFn.toNat, by omega⟩
   have hfl : fi < c.gFns.length := by omega
   rw [hfi, Int.toNat_natCast, getD_lt hfl, decide_eq_true (show (0 : Int) ≤ (fi : Int) by omega), decide_eq_true (show (fi : Int) ≤ (c.gFns.length : Int) - 1 by omega), decide_eq_true (show (fi : Int) < (c.gFns.length : Int) by omega), bif_t (inB_nat hcl)]
   have hmain := main_at hVc hr2 hr3 hfl
   by_cases h1 : (ci : Int) = w
   ·rw [nef h1, decide_eq_true h1]; rfl
   ·rw [net h1, decide_eq_false h1]
    by_cases h2 : (ci : Int) = w + 1
    ·rw [nef h2, decide_eq_true h2]
     by_cases h3 : c.gFns[fi].gName = ⟨#[109, 97, 105, 110]⟩
     ·have := hmain.1 h3
      subst this
      rw [decide_eq_true h3, nef rfl]; rfl
     ·rw [decide_eq_false h3, net (show (fi : Int) ≠ (r : Int) from fun h => h3 (hmain.2 (by omega)))]; rfl
    ·rw [net h2, decide_eq_false h2]; rfl
  ·have e1 : (decide (0 ≤ f.gFn) && decide (f.gFn ≤ (c.gFns.length : Int) - 1)) = false := by
    by_cases h : 0 ≤ f.gFn
    ·rw [decide_eq_false (show ¬ f.gFn ≤ (c.gFns.length : Int) - 1 by omega)]; simp
    ·rw [decide_eq_false h]; rfl
   have e2 : (decide (0 ≤ f.gFn) && decide (f.gFn < (c.gFns.length : Int))) = false := by
    by_cases h : 0 ≤ f.gFn
    ·rw [decide_eq_false (show ¬ f.gFn < (c.gFns.length : Int) by omega)]; simp
    ·rw [decide_eq_false h]; rfl
   rw [e1, e2]
   cases ((ci : Int) != w) <;> cases ((ci : Int) != w + 1) <;> simp
 ·have e1 : (decide (0 ≤ f.gCode) && decide (f.gCode ≤ (m.gCodes.length : Int) - 1)) = false := by
   by_cases h : 0 ≤ f.gCode
   ·rw [decide_eq_false (show ¬ f.gCode ≤ (m.gCodes.length : Int) - 1 by omega)]; simp
   ·rw [decide_eq_false h]; rfl
  have e2 : (decide (0 ≤ f.gCode) && decide (f.gCode < (m.gCodes.length : Int))) = false := by
   by_cases h : 0 ≤ f.gCode
   ·rw [decide_eq_false (show ¬ f.gCode < (m.gCodes.length : Int) by omega)]; simp
   ·rw [decide_eq_false h]; rfl
  rw [e1, e2]
  cases (f.gCode != w) <;> cases (f.gCode != w + 1) <;> simp
end
section
def Known (m : TMachine) (known : List (ByteArray × Option (List TShape))) : Prop :=
 ∀ (a b : Int) (v : Option (List TShape)), mget known (ik a b) = some v → ∃ (ci fi : Nat) (hc : ci < m.gCodes.length) (hf : fi < m.gCodes[ci].gFns.length) (Y : List TShape), a = (ci : Int) ∧ b = (fi : Int) ∧ v = some Y ∧ Shp m.gCodes[ci] fi hf Y
theorem Known.set {m : TMachine} {known : List (ByteArray × Option (List TShape))} (h : Known m known) {ci fi : Nat} (hc : ci < m.gCodes.length) (hf : fi < m.gCodes[ci].gFns.length) {Y : List TShape} (hY : Shp m.gCodes[ci] fi hf Y) : Known m (mset known (ik (ci : Int) (fi : Int)) (some Y)) := by
 intro a b v hv
 rw [mget_mset] at hv
 split at hv
 ·rename_i he
  obtain ⟨rfl, rfl⟩ := ik_inj he
  exact ⟨ci, fi, hc, hf, Y, rfl, rfl, (Option.some.inj hv).symm, hY⟩
 ·exact h a b v hv
theorem foC_ne {Y : List TShape} (h : Y.length ≠ 0) : foC (some Y) = true := by
 cases Y with
 | nil => simp at h
 | cons => rfl
def midI (m : TMachine) (k : Nat) (f : TFrame) (c : TCode) (g : TFn) (Y : List TShape) : Bool :=
 decide (0 ≤ f.gAt) && (decide (f.gAt < (g.gIns.length : Int)) && bodyI m.gFrames m.gKind k f c g Y f.gAt.toNat)
theorem I_mid (m : TMachine) {known : List (ByteArray × Option (List TShape))} (hK : Known m known) {k : Nat} (f : TFrame) (hk : k < m.gFrames.length) (hn : m.gFrames.length ≤ 40) {ci fi : Nat} (hci : f.gCode = (ci : Int)) (hcl : ci < m.gCodes.length)
  (hfn : f.gFn = (fi : Int)) (hfi : fi < m.gCodes[ci].gFns.length) (hV : Valid m.gCodes[ci]) {Y : List TShape} (hY : Shp m.gCodes[ci] fi hfi Y) (t46 : List TFrame) (t47 t48 : Int) {w : Int} (hw : -1 ≤ w ∧ w ≤ 1048576) (hfr : frontB m w f = true) :
  ∃ known', Known m known' ∧ I.Machine_framesOk.l64103 (m.gFrames.length : Int) known k w t46 t47 t48 f m.gCodes m.gArgs m.gOuts m.gFrames m.gSteps m.gLooks m.gKind m.gName m.gHold m.gOver m.gEnd m.gText m.gFiles m.gSaid =
   bif midI m k f m.gCodes[ci] m.gCodes[ci].gFns[fi] Y then I.Machine_framesOk.l500 (m.gFrames.length : Int) known' t46 t47 (IntKind.i64.wrap (t48 + 1)) m.gCodes m.gArgs m.gOuts m.gFrames m.gSteps m.gLooks m.gKind m.gName m.gHold m.gOver m.gEnd m.gText m.gFiles m.gSaid else some (false, (m.gCodes, (m.gArgs, (m.gOuts, (m.gFrames, (m.gSteps, (m.gLooks, (m.gKind, (m.gName, (m.gHold, (m.gOver, (m.gEnd, (m.gText, (m.gFiles, m.gSaid)))))))))))))) := by
 have hF := hV.fn fi hfi
 have h1 := hF.h.i1
 have hYl : Y.length = m.gCodes[ci].gFns[fi].gIns.length := hY.sol.wf.1
 rw [I_front _ _ _ _ _ _ _ _ _ hw, hfr, cond_true, hci, hfn, Int.toNat_natCast, Int.toNat_natCast, getD_lt hcl, getD_lt hfi]
 unfold midI
 by_cases h0 : f.gAt < 0
 ·rw [bif_t (decide_eq_true h0), decide_eq_false (show ¬ 0 ≤ f.gAt by omega)]; exact ⟨known, hK, rfl⟩
 ·rw [bif_f (decide_eq_false h0), decide_eq_true (show 0 ≤ f.gAt by omega), Bool.true_and]
  by_cases h2 : f.gAt < (m.gCodes[ci].gFns[fi].gIns.length : Int)
  ·rw [bif_f (b := decide (f.gAt ≥ (m.gCodes[ci].gFns[fi].gIns.length : Int))) (decide_eq_false (by omega)), decide_eq_true h2, Bool.true_and]
   obtain ⟨a, ha⟩ : ∃ a : Nat, f.gAt = (a : Int) := ⟨f.gAt.toNat, by omega⟩
   have hal : a < m.gCodes[ci].gFns[fi].gIns.length := by omega
   rw [ha, Int.toNat_natCast]
   have body := fun kn => I_body m.gCodes m.gArgs m.gOuts m.gFrames m.gSteps m.gLooks m.gKind m.gName m.gHold m.gOver m.gEnd m.gText m.gFiles m.gSaid (m.gFrames.length : Int) kn t46 t47 t48 (k := k) f hV.co hfi hF hY.sol.wf ha hal rfl hk hn
   cases hg : mget known (ik (ci : Int) (fi : Int)) with
   | none =>
    obtain ⟨z, hz⟩ := hY.i
    rw [Option.getD_none, bif_t (b := foC none) rfl, bif_t (b := Option.isNone none) rfl, hz, Option.bind_some]
    exact ⟨_, hK.set hcl hfi hY, body _⟩
   | some v =>
    obtain ⟨ci', fi', hc', hf', Y', e1, e2, e3, hY'⟩ := hK _ _ _ hg
    have e1 : ci = ci' := by omega
    have e2 : fi = fi' := by omega
    subst e1 e2
    have : Y' = Y := by have h3 := hY'.r; rw [hY.r] at h3; exact (Option.some.inj h3).symm
    subst this
    rw [Option.getD_some, e3, bif_t (b := foC (some Y')) (foC_ne (by omega)), bif_f (b := Option.isNone (some Y')) rfl]
    exact ⟨known, hK, body _⟩
  ·rw [bif_t (b := decide (f.gAt ≥ (m.gCodes[ci].gFns[fi].gIns.length : Int))) (decide_eq_true (by omega)), decide_eq_false h2]; exact ⟨known, hK, rfl⟩
def was (m : TMachine) (k : Nat) : Int := if k = 0 then -1 else (m.gFrames.getD (k - 1) TFrame.z).gCode
theorem I_to (m : TMachine) (known : List (ByteArray × Option (List TShape))) {k : Nat} (hk : k < m.gFrames.length) (hn : m.gFrames.length ≤ 40) :
  I.Machine_framesOk.l500 (m.gFrames.length : Int) known m.gFrames (m.gFrames.length : Int) k m.gCodes m.gArgs m.gOuts m.gFrames m.gSteps m.gLooks m.gKind m.gName m.gHold m.gOver m.gEnd m.gText m.gFiles m.gSaid = I.Machine_framesOk.l64103 (m.gFrames.length : Int) known k (was m k) m.gFrames (m.gFrames.length : Int) k (m.gFrames.getD k TFrame.z) m.gCodes m.gArgs m.gOuts m.gFrames m.gSteps m.gLooks m.gKind m.gName m.gHold m.gOver m.gEnd m.gText m.gFiles m.gSaid := by
 rw [I.Machine_framesOk.l500_eq, bif_t (lt_dec hk), bif_t (inB_nat hk), Int.toNat_natCast]
 unfold was
 by_cases h0 : k = 0
 ·subst h0; rfl
 ·rw [if_neg h0, bif_t (b := decide ((k : Int) > 0)) (decide_eq_true (by omega)), wi_pred (by omega) (by omega), bif_t (inB_nat (show k - 1 < m.gFrames.length by omega)), Int.toNat_natCast]
theorem R_to (m : TMachine) {k : Nat} (hk : k < m.gFrames.length) (hn : m.gFrames.length ≤ 40) :
  R.l9FramesOk.l244 (m.gFrames.length : Int) k m = R.l9FramesOk.l15655 (m.gFrames.length : Int) k (was m k) m (m.gFrames.getD k TFrame.z) := by
 rw [R.l9FramesOk.l244_eq, bif_t (lt_dec hk), bif_t (inB_nat hk), Int.toNat_natCast]
 unfold was
 by_cases h0 : k = 0
 ·subst h0; rfl
 ·rw [if_neg h0, bif_t (b := decide ((k : Int) > 0)) (decide_eq_true (by omega)), wi_pred (by omega) (by omega), bif_t (inB_nat (show k - 1 < m.gFrames.length by omega)), Int.toNat_natCast]
theorem front_is {m : TMachine} {w : Int} {f : TFrame} (h : frontB m w f = true) : ∃ (ci fi : Nat) (hc : ci < m.gCodes.length) (hf : fi < m.gCodes[ci].gFns.length), f.gCode = (ci : Int) ∧ f.gFn = (fi : Int) := by
 unfold frontB at h
 simp only [Bool.and_eq_true, decide_eq_true_eq] at h
 obtain ⟨_, ⟨h1, h2⟩, ⟨h3, h4⟩, _⟩ := h
 obtain ⟨ci, hci⟩ : ∃ ci : Nat, f.gCode = (ci : Int) := ⟨f.gCode.toNat, by omega⟩
 obtain ⟨fi, hfi⟩ : ∃ fi : Nat, f.gFn = (fi : Int) := ⟨f.gFn.toNat, by omega⟩
 have hcl : ci < m.gCodes.length := by omega
 rw [hci, Int.toNat_natCast, getD_lt hcl] at h4
 exact ⟨ci, fi, hcl, by omega, hci, hfi⟩
theorem frames_run (m : TMachine) (hn : m.gFrames.length ≤ 40) (hl : m.gCodes.length ≤ 40) (hV : ∀ ci (h : ci < m.gCodes.length), Valid m.gCodes[ci]) : ∀ (q k : Nat) (known : List (ByteArray × Option (List TShape))), k + q = m.gFrames.length → Known m known → (-1 ≤ was m k ∧ was m k ≤ 1048576) →
  ∃ bh bb : Bool, R.l9FramesOk.l244 (m.gFrames.length : Int) k m = (bif bh then R.l9FramesOk.l500 (m.gFrames.length : Int) 0 m else some false) ∧
   I.Machine_framesOk.l500 (m.gFrames.length : Int) known m.gFrames (m.gFrames.length : Int) k m.gCodes m.gArgs m.gOuts m.gFrames m.gSteps m.gLooks m.gKind m.gName m.gHold m.gOver m.gEnd m.gText m.gFiles m.gSaid = some (bb, (m.gCodes, (m.gArgs, (m.gOuts, (m.gFrames, (m.gSteps, (m.gLooks, (m.gKind, (m.gName, (m.gHold, (m.gOver, (m.gEnd, (m.gText, (m.gFiles, m.gSaid)))))))))))))) ∧ (bh = false → bb = false) ∧
   (bh = true → m.gKind ≤ 4 → R.l9FramesOk.l500 (m.gFrames.length : Int) k m = some bb) := by
 intro q
 induction q with
 | zero =>
  intro k known hk hK hw
  rw [R.l9FramesOk.l244_eq, bif_f (ge_dec (by omega)), I.Machine_framesOk.l500_eq, bif_f (ge_dec (by omega)), R.l9FramesOk.l500_eq (m.gFrames.length : Int) (k : Int), bif_f (ge_dec (by omega))]
  exact ⟨true, true, rfl, rfl, fun h => by simp at h, fun _ _ => rfl⟩
 | succ q ih =>
  intro k known hk hK hw
  have hkl : k < m.gFrames.length := by omega
  rw [R_to m hkl hn, R_front m _ _ _ _ hw hl hV, I_to m known hkl hn, wi_succ (by omega)]
  cases hfr : frontB m (was m k) (m.gFrames.getD k TFrame.z) with
  | false =>
   rw [I_front _ _ _ _ _ _ _ _ _ hw, hfr]
   exact ⟨false, false, rfl, rfl, fun _ => rfl, fun h => by simp at h⟩
  | true =>
   obtain ⟨ci, fi, hcl, hfi, e1, e2⟩ := front_is hfr
   obtain ⟨Y, hY⟩ := (hV ci hcl).sh fi hfi
   obtain ⟨known', hK', h1⟩ := I_mid m hK (m.gFrames.getD k TFrame.z) hkl hn e1 hcl e2 hfi (hV ci hcl) hY m.gFrames (m.gFrames.length : Int) k hw hfr
   rw [h1, wi_succ (by omega), cond_true]
   have hw' : -1 ≤ was m (k + 1) ∧ was m (k + 1) ≤ 1048576 := by
    unfold was
    rw [if_neg (by omega), Nat.add_sub_cancel, e1]
    omega
   obtain ⟨bh, bb, a1, a2, a3, a4⟩ := ih (k + 1) known' (by omega) hK' hw'
   rw [a1, a2]
   refine ⟨bh, midI m k (m.gFrames.getD k TFrame.z) m.gCodes[ci] m.gCodes[ci].gFns[fi] Y && bb, rfl, ?_, fun h => by rw [a3 h]; simp, fun h hkd => ?_⟩
   ·cases midI m k (m.gFrames.getD k TFrame.z) m.gCodes[ci] m.gCodes[ci].gFns[fi] Y <;> rfl
   ·rw [R.l9FramesOk.l500_eq, bif_t (lt_dec hkl), wi_succ (by omega), a4 h hkd]
    obtain ⟨b1, b2⟩ := R_body m hkl rfl hn e1 hcl (getD_lt hcl _) e2 hfi ((hV ci hcl).fn fi hfi) hY
    unfold midI
    by_cases hat : 0 ≤ (m.gFrames.getD k TFrame.z).gAt ∧ (m.gFrames.getD k TFrame.z).gAt < (m.gCodes[ci].gFns[fi].gIns.length : Int)
    ·obtain ⟨a, ha⟩ : ∃ a : Nat, (m.gFrames.getD k TFrame.z).gAt = (a : Int) := ⟨(m.gFrames.getD k TFrame.z).gAt.toNat, by omega⟩
     rw [b1 a ha (by omega), Option.bind_some, decide_eq_true hat.1, decide_eq_true hat.2, ha, Int.toNat_natCast, body_same ((hV ci hcl).fn fi hfi) hY (show a < m.gCodes[ci].gFns[fi].gIns.length by omega) _ _ _ _ hkd]
     cases bodyR m.gFrames m.gKind k (m.gFrames.getD k TFrame.z) m.gCodes[ci] m.gCodes[ci].gFns[fi] Y a <;> rfl
    ·rw [b2 (by omega), Option.bind_some]
     have : (decide (0 ≤ (m.gFrames.getD k TFrame.z).gAt) && (decide ((m.gFrames.getD k TFrame.z).gAt < (m.gCodes[ci].gFns[fi].gIns.length : Int)) && bodyI m.gFrames m.gKind k (m.gFrames.getD k TFrame.z) m.gCodes[ci] m.gCodes[ci].gFns[fi] Y (m.gFrames.getD k TFrame.z).gAt.toNat)) = false := by
      by_cases h0 : 0 ≤ (m.gFrames.getD k TFrame.z).gAt
      ·rw [decide_eq_false (show ¬ (m.gFrames.getD k TFrame.z).gAt < (m.gCodes[ci].gFns[fi].gIns.length : Int) from fun h => hat ⟨h0, h⟩)]; simp
      ·rw [decide_eq_false h0]; rfl
     rw [this]; rfl
theorem frames_same (m : TMachine) (hl0 : 1 ≤ m.gCodes.length) (hl : m.gCodes.length ≤ 40) (hb : m.gFrames.length ≤ 1048576) (hV : ∀ ci (h : ci < m.gCodes.length), Valid m.gCodes[ci]) :
  ∃ br bi : Bool, (m.gKind ≤ 4 → R.l9FramesOk m = some br ∧ br = bi) ∧ I.Machine_framesOk (m.gCodes, (m.gArgs, (m.gOuts, (m.gFrames, (m.gSteps, (m.gLooks, (m.gKind, (m.gName, (m.gHold, (m.gOver, (m.gEnd, (m.gText, (m.gFiles, m.gSaid))))))))))))) = some (bi, (m.gCodes, (m.gArgs, (m.gOuts, (m.gFrames, (m.gSteps, (m.gLooks, (m.gKind, (m.gName, (m.gHold, (m.gOver, (m.gEnd, (m.gText, (m.gFiles, m.gSaid)))))))))))))) := by
 rw [R.l9FramesOk_eq, I.Machine_framesOk_eq, R_in, Option.bind_some]
 by_cases h1 : (m.gFrames.length : Int) < 1
 ·rw [bif_t (b := decide ((m.gFrames.length : Int) < 1)) (decide_eq_true h1), decide_eq_false (show ¬ (1 : Int) ≤ (m.gFrames.length : Int) by omega)]
  exact ⟨false, false, fun _ => ⟨rfl, rfl⟩, rfl⟩
 ·rw [bif_f (b := decide ((m.gFrames.length : Int) < 1)) (decide_eq_false h1), decide_eq_true (show (1 : Int) ≤ (m.gFrames.length : Int) by omega)]
  by_cases h2 : (m.gFrames.length : Int) > 40
  ·rw [bif_t (b := decide ((m.gFrames.length : Int) > 40)) (decide_eq_true h2), decide_eq_false (show ¬ (m.gFrames.length : Int) ≤ 40 by omega)]
   exact ⟨false, false, fun _ => ⟨rfl, rfl⟩, rfl⟩
  ·rw [bif_f (b := decide ((m.gFrames.length : Int) > 40)) (decide_eq_false h2), decide_eq_true (show (m.gFrames.length : Int) ≤ 40 by omega), wi_pred (by omega) (by omega), wi_pred (by omega) (by omega), Int.toNat_natCast]
   have hin : inB ((m.gFrames.length - 1 : Nat) : Int) m.gFrames.length = true := inB_nat (by omega)
   simp only [hin, cond_true, Bool.and_true, Bool.not_true, cond_false]
   by_cases h3 : (m.gFrames.getD (m.gFrames.length - 1) TFrame.z).gCode = ((m.gCodes.length - 1 : Nat) : Int)
   ·rw [nef h3, cond_false, cond_false]
    obtain ⟨bh, bb, a1, a2, a3, a4⟩ := frames_run m (by omega) hl hV m.gFrames.length 0 [] (by omega) (fun a b v h => by simp [mget] at h) (by unfold was; rw [if_pos rfl]; omega)
    have a1 : R.l9FramesOk.l244 (m.gFrames.length : Int) 0 m = _ := a1
    have a2 : I.Machine_framesOk.l500 (m.gFrames.length : Int) [] m.gFrames (m.gFrames.length : Int) 0 m.gCodes m.gArgs m.gOuts m.gFrames m.gSteps m.gLooks m.gKind m.gName m.gHold m.gOver m.gEnd m.gText m.gFiles m.gSaid = _ := a2
    rw [a1, a2]
    refine ⟨bb, bb, fun hk => ⟨?_, rfl⟩, rfl⟩
    cases bh with
    | false => rw [a3 rfl]; rfl
    | true => exact a4 rfl hk
   ·rw [net h3]
    exact ⟨false, false, fun _ => ⟨rfl, rfl⟩, rfl⟩
end
section
def Cn (p : Prop) (left : Int) (x : Option Int) : Prop := ∃ q, x = some q ∧ q ≤ left ∧ (0 ≤ q → p)
theorem Cn.sub {left : Int} {n : Nat} (h0 : 0 ≤ left) (h1 : left ≤ 1048576) (hn : n ≤ 9223372036854775807) {p : Prop} {X : Int → Option Int} (h : ∀ r : Int, 0 ≤ r → r ≤ 1048576 → n ≤ 1048576 → Cn p r (X r)) :
  Cn (n ≤ 1048576 ∧ p) left (bif decide (IntKind.i64.wrap (left - (n : Int)) < 0) then some (-1) else X (IntKind.i64.wrap (left - (n : Int)))) := by
 rw [wi (n := left - (n : Int)) (by omega) (by omega)]
 by_cases hh : left - (n : Int) < 0
 ·rw [bif_t (decide_eq_true hh)]; exact ⟨-1, rfl, by omega, fun h => by omega⟩
 ·rw [bif_f (decide_eq_false hh)]
  obtain ⟨q, a1, a2, a3⟩ := h (left - n) (by omega) (by omega) (by omega)
  exact ⟨q, a1, by omega, fun h => ⟨by omega, a3 h⟩⟩
theorem Cn.bind {left : Int} (h0 : 0 ≤ left) (h1 : left ≤ 1048576) {p q : Prop} {x : Option Int} {X : Int → Option Int} (hx : Cn p left x) (h : ∀ r : Int, 0 ≤ r → r ≤ 1048576 → p → Cn q r (X r)) : Cn (p ∧ q) left (x.bind fun r => bif decide (r < 0) then some (-1) else X r) := by
 obtain ⟨r, rfl, h2, h3⟩ := hx
 rw [Option.bind_some]
 by_cases hr : r < 0
 ·rw [bif_t (decide_eq_true hr)]; exact ⟨-1, rfl, by omega, fun h => by omega⟩
 ·rw [bif_f (decide_eq_false hr)]
  obtain ⟨q', a1, a2, a3⟩ := h r (by omega) (by omega) (h3 (by omega))
  exact ⟨q', a1, by omega, fun h => ⟨h3 (by omega), a3 h⟩⟩
theorem Cn.ret {left : Int} : Cn True left (some left) := ⟨left, rfl, by omega, fun _ => trivial⟩
theorem Cn.mono {left : Int} {p q : Prop} {x : Option Int} (h : p → q) (hx : Cn p left x) : Cn q left x := let ⟨r, a, b, c⟩ := hx; ⟨r, a, b, fun hr => h (c hr)⟩
theorem Cn.list {α : Type} (a : List α) (Small : α → Prop) (one : α → Int → Option Int) (F : Int → Int → Option Int) (hone : ∀ x, x ∈ a → ∀ r : Int, 0 ≤ r → r ≤ 1048576 → Cn (Small x) r (one x r))
  (hstep : ∀ (i : Nat) (hi : i < a.length) (r : Int), F r i = (one a[i] r).bind fun q => bif decide (q < 0) then some (-1) else F q ((i + 1 : Nat) : Int)) (hend : ∀ r, F r (a.length : Nat) = some r) {r : Int} (h0 : 0 ≤ r) (h1 : r ≤ 1048576) : Cn (∀ x ∈ a, Small x) r (F r 0) := by
 have key : ∀ (m i : Nat) (r : Int), i + m = a.length → 0 ≤ r → r ≤ 1048576 → Cn (∀ j (hj : j < a.length), i ≤ j → Small a[j]) r (F r i) := by
  intro m
  induction m with
  | zero =>
   intro i r hi _ _
   have : i = a.length := by omega
   subst this
   rw [hend]
   exact ⟨r, rfl, by omega, fun _ j hj h => by omega⟩
  | succ m ih =>
   intro i r hi h0 h1
   have hil : i < a.length := by omega
   rw [hstep i hil r]
   refine ((hone a[i] (List.getElem_mem hil) r h0 h1).bind h0 h1 fun q q0 q1 _ => ih (i + 1) q (by omega) q0 q1).mono fun ⟨h2, h3⟩ j hj hij => ?_
   by_cases hji : j = i
   ·subst hji; exact h2
   ·exact h3 j hj (by omega)
 refine (key a.length 0 r (by omega) h0 h1).mono fun h x hx => ?_
 obtain ⟨k, hk, rfl⟩ := List.mem_iff_getElem.1 hx
 exact h k hk (Nat.zero_le _)
theorem copy_run {α : Type} (a : List α) (F : List α → Int → Option (List α)) (h : ∀ (out : List α) (i : Nat) (hi : i < a.length), out.length = a.length → F out i = F (out.set i a[i]) ((i + 1 : Nat) : Int)) (hend : ∀ out : List α, F out (a.length : Nat) = some out) (out : List α) (ho : out.length = a.length) : F out 0 = some a := by
 have key : ∀ (m i : Nat) (out : List α), i + m = a.length → out.length = a.length → out.take i = a.take i → F out i = some a := by
  intro m
  induction m with
  | zero =>
   intro i out hi hl ht
   have : i = a.length := by omega
   subst this
   rw [List.take_of_length_le (by omega), List.take_of_length_le (by omega)] at ht
   rw [hend, ht]
  | succ m ih =>
   intro i out hi hl ht
   have hil : i < a.length := by omega
   rw [h out i hil hl]
   refine ih (i + 1) _ (by omega) (by rw [List.length_set]; exact hl) ?_
   rw [List.take_add_one, List.take_add_one, List.take_set_of_le (Nat.le_refl _), ht, List.getElem?_set_self (by omega), List.getElem?_eq_getElem hil]
 exact key a.length 0 out (by omega) ho (by simp)
theorem eq_run (n : Nat) (F : Int → Option Bool) (h : ∀ i, i < n → F (i : Nat) = F ((i + 1 : Nat) : Int)) (hend : F (n : Nat) = some true) : F 0 = some true := by
 have key : ∀ (m i : Nat), i + m = n → F (i : Nat) = some true := by
  intro m
  induction m with
  | zero => intro i hi; obtain rfl : i = n := (by omega); exact hend
  | succ m ih => intro i hi; rw [h i (by omega)]; exact ih (i + 1) (by omega)
 exact key n 0 (by omega)
def insL (b : Nat) (x : TIns) : Prop := x.gText.size ≤ b
def fnL (b : Nat) (f : TFn) : Prop := f.gName.size ≤ b ∧ f.gParams.length ≤ b ∧ (f.gIns.length ≤ b ∧ ∀ x ∈ f.gIns, insL b x)
def codeL (b : Nat) (c : TCode) : Prop := c.gFns.length ≤ b ∧ ∀ f ∈ c.gFns, fnL b f
def valL (b : Nat) (v : TValue) : Prop := v.gText.size ≤ b
def frameL (b : Nat) (f : TFrame) : Prop := (f.gSlots.length ≤ b ∧ ∀ v ∈ f.gSlots, valL b v) ∧ (f.gStack.length ≤ b ∧ ∀ v ∈ f.gStack, valL b v)
def fileL (b : Nat) (f : TFile) : Prop := f.gName.size ≤ b ∧ f.gText.size ≤ b
def textL (b : Nat) (t : ByteArray) : Prop := t.size ≤ b
def listL {α : Type} (P : Nat → α → Prop) (b : Nat) (l : List α) : Prop := l.length ≤ b ∧ ∀ x ∈ l, P b x
structure MachL (b : Nat) (m : TMachine) : Prop where
 codes : listL codeL b m.gCodes
 args : listL textL b m.gArgs
 outs : listL textL b m.gOuts
 frames : listL frameL b m.gFrames
 name : m.gName.size ≤ b
 hold : m.gHold.size ≤ b
 text : m.gText.size ≤ b
 files : listL fileL b m.gFiles
 said : listL textL b m.gSaid
@[reducible] def BIG : Nat := 9223372036854775807
@[reducible] def SM : Nat := 1048576
theorem sz_ints (a : List Int) (ha : a.length ≤ BIG) {left : Int} (h0 : 0 ≤ left) (h1 : left ≤ 1048576) : Cn (a.length ≤ SM) left (L.szIntS a left) := by
 rw [L.szIntS_eq]
 exact (Cn.sub (X := fun r => some r) h0 h1 ha fun r _ _ _ => .ret).mono And.left
theorem sz_ins (x : TIns) (hx : insL BIG x) {left : Int} (h0 : 0 ≤ left) (h1 : left ≤ 1048576) : Cn (insL SM x) left (L.szIns x left) := by
 rw [L.szIns_eq]
 exact (Cn.sub (X := fun r => some r) h0 h1 hx fun r _ _ _ => .ret).mono And.left
theorem sz_val (x : TValue) (hx : valL BIG x) {left : Int} (h0 : 0 ≤ left) (h1 : left ≤ 1048576) : Cn (valL SM x) left (L.szValue x left) := by
 rw [L.szValue_eq]
 exact (Cn.sub (X := fun r => some r) h0 h1 hx fun r _ _ _ => .ret).mono And.left
theorem sz_file (x : TFile) (hx : fileL BIG x) {left : Int} (h0 : 0 ≤ left) (h1 : left ≤ 1048576) : Cn (fileL SM x) left (L.szFile x left) := by
 rw [L.szFile_eq]
 exact (Cn.sub (X := fun r => bif decide (IntKind.i64.wrap (r - (x.gText.size : Int)) < 0) then some (-1) else some (IntKind.i64.wrap (r - (x.gText.size : Int)))) h0 h1 hx.1 fun r r0 r1 _ => Cn.sub (X := fun r => some r) r0 r1 hx.2 fun r _ _ _ => .ret).mono fun h => ⟨h.1, h.2.1⟩
theorem sz_inss (a : List TIns) (ha : listL insL BIG a) {left : Int} (h0 : 0 ≤ left) (h1 : left ≤ 1048576) : Cn (listL insL SM a) left (L.szInsS a left) := by
 rw [L.szInsS_eq]
 exact Cn.sub (X := fun r => L.szInsS.l244 a r 0) h0 h1 ha.1 fun r r0 r1 hl => Cn.list a (insL SM) (fun x r => L.szIns x r) (fun r i => L.szInsS.l244 a r i) (fun x hx r r0 r1 => sz_ins x (ha.2 x hx) r0 r1)
  (fun i hi r => by show L.szInsS.l244 a r i = _; rw [L.szInsS.l244_eq, bif_t (lt_dec hi), bif_t (inB_nat hi), Int.toNat_natCast, getD_lt hi, wi_succ (by omega)]) (fun r => by show L.szInsS.l244 a r _ = _; rw [L.szInsS.l244_eq, bif_f (ge_dec (Nat.le_refl _))]) r0 r1
theorem sz_vals (a : List TValue) (ha : listL valL BIG a) {left : Int} (h0 : 0 ≤ left) (h1 : left ≤ 1048576) : Cn (listL valL SM a) left (L.szValueS a left) := by
 rw [L.szValueS_eq]
 exact Cn.sub (X := fun r => L.szValueS.l244 a r 0) h0 h1 ha.1 fun r r0 r1 hl => Cn.list a (valL SM) (fun x r => L.szValue x r) (fun r i => L.szValueS.l244 a r i) (fun x hx r r0 r1 => sz_val x (ha.2 x hx) r0 r1)
  (fun i hi r => by show L.szValueS.l244 a r i = _; rw [L.szValueS.l244_eq, bif_t (lt_dec hi), bif_t (inB_nat hi), Int.toNat_natCast, getD_lt hi, wi_succ (by omega)]) (fun r => by show L.szValueS.l244 a r _ = _; rw [L.szValueS.l244_eq, bif_f (ge_dec (Nat.le_refl _))]) r0 r1
theorem sz_files (a : List TFile) (ha : listL fileL BIG a) {left : Int} (h0 : 0 ≤ left) (h1 : left ≤ 1048576) : Cn (listL fileL SM a) left (L.szFileS a left) := by
 rw [L.szFileS_eq]
 exact Cn.sub (X := fun r => L.szFileS.l244 a r 0) h0 h1 ha.1 fun r r0 r1 hl => Cn.list a (fileL SM) (fun x r => L.szFile x r) (fun r i => L.szFileS.l244 a r i) (fun x hx r r0 r1 => sz_file x (ha.2 x hx) r0 r1)
  (fun i hi r => by show L.szFileS.l244 a r i = _; rw [L.szFileS.l244_eq, bif_t (lt_dec hi), bif_t (inB_nat hi), Int.toNat_natCast, getD_lt hi, wi_succ (by omega)]) (fun r => by show L.szFileS.l244 a r _ = _; rw [L.szFileS.l244_eq, bif_f (ge_dec (Nat.le_refl _))]) r0 r1
theorem sz_fn (f : TFn) (hf : fnL BIG f) {left : Int} (h0 : 0 ≤ left) (h1 : left ≤ 1048576) : Cn (fnL SM f) left (L.szFn f left) := by
 rw [L.szFn_eq]
 exact (Cn.sub (X := fun r => (L.szIntS f.gParams r).bind fun (r0 : Int) => bif decide (r0 < 0) then some (-1) else (L.szInsS f.gIns r0).bind fun (r1 : Int) => bif decide (r1 < 0) then some (-1) else some r1) h0 h1 hf.1 fun r r0 r1 _ =>
  Cn.bind r0 r1 (sz_ints _ hf.2.1 r0 r1) fun r r0 r1 _ => Cn.bind r0 r1 (sz_inss _ hf.2.2 r0 r1) fun r r0 r1 _ => .ret).mono fun h => ⟨h.1, h.2.1, h.2.2.1⟩
theorem sz_fns (a : List TFn) (ha : listL fnL BIG a) {left : Int} (h0 : 0 ≤ left) (h1 : left ≤ 1048576) : Cn (listL fnL SM a) left (L.szFnS a left) := by
 rw [L.szFnS_eq]
 exact Cn.sub (X := fun r => L.szFnS.l244 a r 0) h0 h1 ha.1 fun r r0 r1 hl => Cn.list a (fnL SM) (fun x r => L.szFn x r) (fun r i => L.szFnS.l244 a r i) (fun x hx r r0 r1 => sz_fn x (ha.2 x hx) r0 r1)
  (fun i hi r => by show L.szFnS.l244 a r i = _; rw [L.szFnS.l244_eq, bif_t (lt_dec hi), bif_t (inB_nat hi), Int.toNat_natCast, getD_lt hi, wi_succ (by omega)]) (fun r => by show L.szFnS.l244 a r _ = _; rw [L.szFnS.l244_eq, bif_f (ge_dec (Nat.le_refl _))]) r0 r1
theorem sz_code (c : TCode) (hc : codeL BIG c) {left : Int} (h0 : 0 ≤ left) (h1 : left ≤ 1048576) : Cn (codeL SM c) left (L.szCode c left) := by
 rw [L.szCode_eq]
 exact (Cn.bind h0 h1 (sz_fns _ hc h0 h1) fun r r0 r1 _ => .ret).mono And.left
theorem sz_frame (f : TFrame) (hf : frameL BIG f) {left : Int} (h0 : 0 ≤ left) (h1 : left ≤ 1048576) : Cn (frameL SM f) left (L.szFrame f left) := by
 rw [L.szFrame_eq]
 exact (Cn.bind h0 h1 (sz_vals _ hf.1 h0 h1) fun r r0 r1 _ => Cn.bind r0 r1 (sz_vals _ hf.2 r0 r1) fun r r0 r1 _ => .ret).mono fun h => ⟨h.1, h.2.1⟩
theorem sz_codes (a : List TCode) (ha : listL codeL BIG a) {left : Int} (h0 : 0 ≤ left) (h1 : left ≤ 1048576) : Cn (listL codeL SM a) left (L.szCodeS a left) := by
 rw [L.szCodeS_eq]
 exact Cn.sub (X := fun r => L.szCodeS.l244 a r 0) h0 h1 ha.1 fun r r0 r1 hl => Cn.list a (codeL SM) (fun x r => L.szCode x r) (fun r i => L.szCodeS.l244 a r i) (fun x hx r r0 r1 => sz_code x (ha.2 x hx) r0 r1)
  (fun i hi r => by show L.szCodeS.l244 a r i = _; rw [L.szCodeS.l244_eq, bif_t (lt_dec hi), bif_t (inB_nat hi), Int.toNat_natCast, getD_lt hi, wi_succ (by omega)]) (fun r => by show L.szCodeS.l244 a r _ = _; rw [L.szCodeS.l244_eq, bif_f (ge_dec (Nat.le_refl _))]) r0 r1
theorem sz_frames (a : List TFrame) (ha : listL frameL BIG a) {left : Int} (h0 : 0 ≤ left) (h1 : left ≤ 1048576) : Cn (listL frameL SM a) left (L.szFrameS a left) := by
 rw [L.szFrameS_eq]
 exact Cn.sub (X := fun r => L.szFrameS.l244 a r 0) h0 h1 ha.1 fun r r0 r1 hl => Cn.list a (frameL SM) (fun x r => L.szFrame x r) (fun r i => L.szFrameS.l244 a r i) (fun x hx r r0 r1 => sz_frame x (ha.2 x hx) r0 r1)
  (fun i hi r => by show L.szFrameS.l244 a r i = _; rw [L.szFrameS.l244_eq, bif_t (lt_dec hi), bif_t (inB_nat hi), Int.toNat_natCast, getD_lt hi, wi_succ (by omega)]) (fun r => by show L.szFrameS.l244 a r _ = _; rw [L.szFrameS.l244_eq, bif_f (ge_dec (Nat.le_refl _))]) r0 r1
theorem sz_texts (a : List ByteArray) (ha : listL textL BIG a) {left : Int} (h0 : 0 ≤ left) (h1 : left ≤ 1048576) : Cn (listL textL SM a) left (L.szStringS a left) := by
 rw [L.szStringS_eq]
 exact Cn.sub (X := fun r => L.szStringS.l244 a r 0) h0 h1 ha.1 fun r r0 r1 hl => Cn.list a (textL SM) (fun x r => bif decide (IntKind.i64.wrap (r - (x.size : Int)) < 0) then some (-1) else some (IntKind.i64.wrap (r - (x.size : Int)))) (fun r i => L.szStringS.l244 a r i)
  (fun x hx r r0 r1 => (Cn.sub (X := fun r => some r) r0 r1 (ha.2 x hx) fun r _ _ _ => .ret).mono And.left)
  (fun i hi r => by
   show L.szStringS.l244 a r i = _
   rw [L.szStringS.l244_eq, bif_t (lt_dec hi), bif_t (inB_nat hi), Int.toNat_natCast, getD_lt hi, wi_succ (by omega)]
   by_cases h : IntKind.i64.wrap (r - (a[i].size : Int)) < 0
   ·rw [bif_t (decide_eq_true h), bif_t (decide_eq_true h)]; rfl
   ·rw [bif_f (decide_eq_false h), bif_f (decide_eq_false h), Option.bind_some, bif_f (decide_eq_false h)]) (fun r => by show L.szStringS.l244 a r _ = _; rw [L.szStringS.l244_eq, bif_f (ge_dec (Nat.le_refl _))]) r0 r1
theorem sz_machine (m : TMachine) (hm : MachL BIG m) : Cn (MachL SM m) 1048576 (L.szMachine m 1048576) := by
 rw [L.szMachine_eq]
 exact (Cn.bind (by omega) (by omega) (sz_codes _ hm.codes (by omega) (by omega)) fun r r0 r1 _ => Cn.bind r0 r1 (sz_texts _ hm.args r0 r1) fun r r0 r1 _ => Cn.bind r0 r1 (sz_texts _ hm.outs r0 r1) fun r r0 r1 _ => Cn.bind r0 r1 (sz_frames _ hm.frames r0 r1) fun r r0 r1 _ =>
  Cn.sub (X := fun r => bif decide (IntKind.i64.wrap (r - (m.gHold.size : Int)) < 0) then some (-1) else bif decide (IntKind.i64.wrap (IntKind.i64.wrap (r - (m.gHold.size : Int)) - (m.gText.size : Int)) < 0) then some (-1) else (L.szFileS m.gFiles (IntKind.i64.wrap (IntKind.i64.wrap (r - (m.gHold.size : Int)) - (m.gText.size : Int)))).bind fun (r4 : Int) => bif decide (r4 < 0) then some (-1) else (L.szStringS m.gSaid r4).bind fun (r5 : Int) => bif decide (r5 < 0) then some (-1) else some r5) r0 r1 hm.name fun r r0 r1 _ =>
  Cn.sub (X := fun r => bif decide (IntKind.i64.wrap (r - (m.gText.size : Int)) < 0) then some (-1) else (L.szFileS m.gFiles (IntKind.i64.wrap (r - (m.gText.size : Int)))).bind fun (r4 : Int) => bif decide (r4 < 0) then some (-1) else (L.szStringS m.gSaid r4).bind fun (r5 : Int) => bif decide (r5 < 0) then some (-1) else some r5) r0 r1 hm.hold fun r r0 r1 _ =>
  Cn.sub (X := fun r => (L.szFileS m.gFiles r).bind fun (r4 : Int) => bif decide (r4 < 0) then some (-1) else (L.szStringS m.gSaid r4).bind fun (r5 : Int) => bif decide (r5 < 0) then some (-1) else some r5) r0 r1 hm.text fun r r0 r1 _ =>
  Cn.bind r0 r1 (sz_files _ hm.files r0 r1) fun r r0 r1 _ => Cn.bind r0 r1 (sz_texts _ hm.said r0 r1) fun r r0 r1 _ => .ret).mono
   fun ⟨a1, a2, a3, a4, a5, a6, a7, a8, a9, _⟩ => ⟨a1, a2, a3, a4, a5, a6, a7, a8, a9⟩
theorem to_ints (a : List Int) (hl : a.length ≤ SM) : L.toIntS a = some a := by
 have hl : a.length ≤ 1048576 := hl
 rw [L.toIntS_eq, bif_t (by simp [room]; omega)]
 refine copy_run a (fun out i => L.toIntS.l116 a out i) (fun out i hi hl => ?_) (fun out => ?_) _ (by simp)
 ·show L.toIntS.l116 a out i = _
  rw [L.toIntS.l116_eq, bif_t (lt_dec hi), bif_t (inB_nat hi), bif_t (inB_nat (by omega)), Int.toNat_natCast, getD_lt hi, wi_succ (by omega)]
 ·show L.toIntS.l116 a out (a.length : Nat) = _
  rw [L.toIntS.l116_eq, bif_f (ge_dec (Nat.le_refl _))]
theorem to_texts (a : List ByteArray) (ha : listL textL SM a) : L.toStringS a = some a := by
 have hl : a.length ≤ 1048576 := ha.1
 rw [L.toStringS_eq, bif_t (by simp [room]; omega)]
 refine copy_run a (fun out i => L.toStringS.l116 a out i) (fun out i hi hl => ?_) (fun out => ?_) _ (by simp)
 ·show L.toStringS.l116 a out i = _
  rw [L.toStringS.l116_eq, bif_t (lt_dec hi), bif_t (inB_nat hi), bif_t (inB_nat (by omega)), Int.toNat_natCast, getD_lt hi, wi_succ (by omega)]
 ·show L.toStringS.l116 a out (a.length : Nat) = _
  rw [L.toStringS.l116_eq, bif_f (ge_dec (Nat.le_refl _))]
theorem to_inss (a : List TIns) (ha : listL insL SM a) : L.toInsS a = some a := by
 have hl : a.length ≤ 1048576 := ha.1
 rw [L.toInsS_eq, bif_t (by simp [room]; omega)]
 refine copy_run a (fun out i => L.toInsS.l116 a out i) (fun out i hi hl => ?_) (fun out => ?_) _ (by simp)
 ·show L.toInsS.l116 a out i = _
  rw [L.toInsS.l116_eq, bif_t (lt_dec hi), bif_t (inB_nat hi), Int.toNat_natCast, getD_lt hi, L.toIns_eq, Option.bind_some, bif_t (inB_nat (by omega)), wi_succ (by omega)]
 ·show L.toInsS.l116 a out (a.length : Nat) = _
  rw [L.toInsS.l116_eq, bif_f (ge_dec (Nat.le_refl _))]
theorem to_vals (a : List TValue) (ha : listL valL SM a) : L.toValueS a = some a := by
 have hl : a.length ≤ 1048576 := ha.1
 rw [L.toValueS_eq, bif_t (by simp [room]; omega)]
 refine copy_run a (fun out i => L.toValueS.l116 a out i) (fun out i hi hl => ?_) (fun out => ?_) _ (by simp)
 ·show L.toValueS.l116 a out i = _
  rw [L.toValueS.l116_eq, bif_t (lt_dec hi), bif_t (inB_nat hi), Int.toNat_natCast, getD_lt hi, L.toValue_eq, Option.bind_some, bif_t (inB_nat (by omega)), wi_succ (by omega)]
 ·show L.toValueS.l116 a out (a.length : Nat) = _
  rw [L.toValueS.l116_eq, bif_f (ge_dec (Nat.le_refl _))]
theorem to_files (a : List TFile) (ha : listL fileL SM a) : L.toFileS a = some a := by
 have hl : a.length ≤ 1048576 := ha.1
 rw [L.toFileS_eq, bif_t (by simp [room]; omega)]
 refine copy_run a (fun out i => L.toFileS.l116 a out i) (fun out i hi hl => ?_) (fun out => ?_) _ (by simp)
 ·show L.toFileS.l116 a out i = _
  rw [L.toFileS.l116_eq, bif_t (lt_dec hi), bif_t (inB_nat hi), Int.toNat_natCast, getD_lt hi, L.toFile_eq, Option.bind_some, bif_t (inB_nat (by omega)), wi_succ (by omega)]
 ·show L.toFileS.l116 a out (a.length : Nat) = _
  rw [L.toFileS.l116_eq, bif_f (ge_dec (Nat.le_refl _))]
theorem to_fns (a : List TFn) (ha : listL fnL SM a) : L.toFnS a = some a := by
 have hl : a.length ≤ 1048576 := ha.1
 rw [L.toFnS_eq, bif_t (by simp [room]; omega)]
 refine copy_run a (fun out i => L.toFnS.l116 a out i) (fun out i hi hl => ?_) (fun out => ?_) _ (by simp)
 ·show L.toFnS.l116 a out i = _
  rw [L.toFnS.l116_eq, bif_t (lt_dec hi), bif_t (inB_nat hi), Int.toNat_natCast, getD_lt hi, L.toFn_eq, to_ints _ (ha.2 _ (List.getElem_mem hi)).2.1, Option.bind_some, to_inss _ (ha.2 _ (List.getElem_mem hi)).2.2, Option.bind_some, Option.bind_some, bif_t (inB_nat (by omega)), wi_succ (by omega)]
 ·show L.toFnS.l116 a out (a.length : Nat) = _
  rw [L.toFnS.l116_eq, bif_f (ge_dec (Nat.le_refl _))]
theorem to_codes (a : List TCode) (ha : listL codeL SM a) : L.toCodeS a = some a := by
 have hl : a.length ≤ 1048576 := ha.1
 rw [L.toCodeS_eq, bif_t (by simp [room]; omega)]
 refine copy_run a (fun out i => L.toCodeS.l116 a out i) (fun out i hi hl => ?_) (fun out => ?_) _ (by simp)
 ·show L.toCodeS.l116 a out i = _
  rw [L.toCodeS.l116_eq, bif_t (lt_dec hi), bif_t (inB_nat hi), Int.toNat_natCast, getD_lt hi, L.toCode_eq, to_fns _ (ha.2 _ (List.getElem_mem hi)), Option.bind_some, Option.bind_some, bif_t (inB_nat (by omega)), wi_succ (by omega)]
 ·show L.toCodeS.l116 a out (a.length : Nat) = _
  rw [L.toCodeS.l116_eq, bif_f (ge_dec (Nat.le_refl _))]
theorem to_frames (a : List TFrame) (ha : listL frameL SM a) : L.toFrameS a = some a := by
 have hl : a.length ≤ 1048576 := ha.1
 rw [L.toFrameS_eq, bif_t (by simp [room]; omega)]
 refine copy_run a (fun out i => L.toFrameS.l116 a out i) (fun out i hi hl => ?_) (fun out => ?_) _ (by simp)
 ·show L.toFrameS.l116 a out i = _
  rw [L.toFrameS.l116_eq, bif_t (lt_dec hi), bif_t (inB_nat hi), Int.toNat_natCast, getD_lt hi, L.toFrame_eq, to_vals _ (ha.2 _ (List.getElem_mem hi)).1, Option.bind_some, to_vals _ (ha.2 _ (List.getElem_mem hi)).2, Option.bind_some, Option.bind_some, bif_t (inB_nat (by omega)), wi_succ (by omega)]
 ·show L.toFrameS.l116 a out (a.length : Nat) = _
  rw [L.toFrameS.l116_eq, bif_f (ge_dec (Nat.le_refl _))]
theorem to_machine (m : TMachine) (hm : MachL SM m) : L.toMachine m = some m := by
 rw [L.toMachine_eq, to_codes _ hm.codes, Option.bind_some, to_texts _ hm.args, Option.bind_some, to_texts _ hm.outs, Option.bind_some, to_frames _ hm.frames, Option.bind_some, to_files _ hm.files, Option.bind_some, to_texts _ hm.said, Option.bind_some]
theorem bEq_n (x : ByteArray) : (!bEq x x) = false := by rw [bEq_self]; rfl
theorem eq_ints (a : List Int) (hl : a.length ≤ SM) : L.eqIntS a a = some true := by
 have hl : a.length ≤ 1048576 := hl
 rw [L.eqIntS_eq, nef rfl, cond_false]
 exact eq_run a.length (fun i => L.eqIntS.l116 a a i) (fun i hi => by
  show L.eqIntS.l116 a a i = _
  rw [L.eqIntS.l116_eq, bif_t (lt_dec hi), bif_t (inB_nat hi), bif_t (inB_nat hi), nef rfl, cond_false, wi_succ (by omega)]) (by show L.eqIntS.l116 a a _ = _; rw [L.eqIntS.l116_eq, bif_f (ge_dec (Nat.le_refl _))])
theorem eq_texts (a : List ByteArray) (ha : listL textL SM a) : L.eqStringS a a = some true := by
 have hl : a.length ≤ 1048576 := ha.1
 rw [L.eqStringS_eq, nef rfl, cond_false]
 exact eq_run a.length (fun i => L.eqStringS.l116 a a i) (fun i hi => by
  show L.eqStringS.l116 a a i = _
  rw [L.eqStringS.l116_eq, bif_t (lt_dec hi), bif_t (inB_nat hi), bif_t (inB_nat hi), bEq_n, cond_false, wi_succ (by omega)]) (by show L.eqStringS.l116 a a _ = _; rw [L.eqStringS.l116_eq, bif_f (ge_dec (Nat.le_refl _))])
theorem eq_val (x : TValue) : L.eqValue x x = some true := by rw [L.eqValue_eq, nef rfl, cond_false, nef rfl, cond_false, bEq_n, cond_false]
theorem eq_file (x : TFile) : L.eqFile x x = some true := by rw [L.eqFile_eq, bEq_n, cond_false, bEq_n, cond_false]
theorem eq_ins (x : TIns) : L.eqIns x x = some true := by
 rw [L.eqIns_eq]
 simp only [nef rfl, bEq_n, cond_false]
theorem eq_inss (a : List TIns) (ha : listL insL SM a) : L.eqInsS a a = some true := by
 have hl : a.length ≤ 1048576 := ha.1
 rw [L.eqInsS_eq, nef rfl, cond_false]
 exact eq_run a.length (fun i => L.eqInsS.l116 a a i) (fun i hi => by
  show L.eqInsS.l116 a a i = _
  rw [L.eqInsS.l116_eq, bif_t (lt_dec hi), bif_t (inB_nat hi), bif_t (inB_nat hi), Int.toNat_natCast, getD_lt hi, eq_ins, Option.bind_some, Bool.not_true, cond_false, wi_succ (by omega)]) (by show L.eqInsS.l116 a a _ = _; rw [L.eqInsS.l116_eq, bif_f (ge_dec (Nat.le_refl _))])
theorem eq_vals (a : List TValue) (ha : listL valL SM a) : L.eqValueS a a = some true := by
 have hl : a.length ≤ 1048576 := ha.1
 rw [L.eqValueS_eq, nef rfl, cond_false]
 exact eq_run a.length (fun i => L.eqValueS.l116 a a i) (fun i hi => by
  show L.eqValueS.l116 a a i = _
  rw [L.eqValueS.l116_eq, bif_t (lt_dec hi), bif_t (inB_nat hi), bif_t (inB_nat hi), Int.toNat_natCast, getD_lt hi, eq_val, Option.bind_some, Bool.not_true, cond_false, wi_succ (by omega)]) (by show L.eqValueS.l116 a a _ = _; rw [L.eqValueS.l116_eq, bif_f (ge_dec (Nat.le_refl _))])
theorem eq_files (a : List TFile) (ha : listL fileL SM a) : L.eqFileS a a = some true := by
 have hl : a.length ≤ 1048576 := ha.1
 rw [L.eqFileS_eq, nef rfl, cond_false]
 exact eq_run a.length (fun i => L.eqFileS.l116 a a i) (fun i hi => by
  show L.eqFileS.l116 a a i = _
  rw [L.eqFileS.l116_eq, bif_t (lt_dec hi), bif_t (inB_nat hi), bif_t (inB_nat hi), Int.toNat_natCast, getD_lt hi, eq_file, Option.bind_some, Bool.not_true, cond_false, wi_succ (by omega)]) (by show L.eqFileS.l116 a a _ = _; rw [L.eqFileS.l116_eq, bif_f (ge_dec (Nat.le_refl _))])
theorem eq_fn (f : TFn) (hf : fnL SM f) : L.eqFn f f = some true := by
 rw [L.eqFn_eq]
 simp only [nef rfl, bEq_n, cond_false, eq_ints _ hf.2.1, eq_inss _ hf.2.2, Option.bind_some, Bool.not_true]
theorem eq_fns (a : List TFn) (ha : listL fnL SM a) : L.eqFnS a a = some true := by
 have hl : a.length ≤ 1048576 := ha.1
 rw [L.eqFnS_eq, nef rfl, cond_false]
 exact eq_run a.length (fun i => L.eqFnS.l116 a a i) (fun i hi => by
  show L.eqFnS.l116 a a i = _
  rw [L.eqFnS.l116_eq, bif_t (lt_dec hi), bif_t (inB_nat hi), bif_t (inB_nat hi), Int.toNat_natCast, getD_lt hi, eq_fn _ (ha.2 _ (List.getElem_mem hi)), Option.bind_some, Bool.not_true, cond_false, wi_succ (by omega)]) (by show L.eqFnS.l116 a a _ = _; rw [L.eqFnS.l116_eq, bif_f (ge_dec (Nat.le_refl _))])
theorem eq_code (c : TCode) (hc : codeL SM c) : L.eqCode c c = some true := by rw [L.eqCode_eq, eq_fns _ hc]; rfl
theorem eq_frame (f : TFrame) (hf : frameL SM f) : L.eqFrame f f = some true := by
 rw [L.eqFrame_eq]
 simp only [nef rfl, cond_false, eq_vals _ hf.1, eq_vals _ hf.2, Option.bind_some, Bool.not_true]
theorem eq_codes (a : List TCode) (ha : listL codeL SM a) : L.eqCodeS a a = some true := by
 have hl : a.length ≤ 1048576 := ha.1
 rw [L.eqCodeS_eq, nef rfl, cond_false]
 exact eq_run a.length (fun i => L.eqCodeS.l116 a a i) (fun i hi => by
  show L.eqCodeS.l116 a a i = _
  rw [L.eqCodeS.l116_eq, bif_t (lt_dec hi), bif_t (inB_nat hi), bif_t (inB_nat hi), Int.toNat_natCast, getD_lt hi, eq_code _ (ha.2 _ (List.getElem_mem hi)), Option.bind_some, Bool.not_true, cond_false, wi_succ (by omega)]) (by show L.eqCodeS.l116 a a _ = _; rw [L.eqCodeS.l116_eq, bif_f (ge_dec (Nat.le_refl _))])
theorem eq_frames (a : List TFrame) (ha : listL frameL SM a) : L.eqFrameS a a = some true := by
 have hl : a.length ≤ 1048576 := ha.1
 rw [L.eqFrameS_eq, nef rfl, cond_false]
 exact eq_run a.length (fun i => L.eqFrameS.l116 a a i) (fun i hi => by
  show L.eqFrameS.l116 a a i = _
  rw [L.eqFrameS.l116_eq, bif_t (lt_dec hi), bif_t (inB_nat hi), bif_t (inB_nat hi), Int.toNat_natCast, getD_lt hi, eq_frame _ (ha.2 _ (List.getElem_mem hi)), Option.bind_some, Bool.not_true, cond_false, wi_succ (by omega)]) (by show L.eqFrameS.l116 a a _ = _; rw [L.eqFrameS.l116_eq, bif_f (ge_dec (Nat.le_refl _))])
theorem eq_machine (m : TMachine) (hm : MachL SM m) : L.eqMachine m m = some true := by
 rw [L.eqMachine_eq]
 have hb : (!(m.gOver == m.gOver)) = false := by simp
 simp only [nef rfl, bEq_n, hb, cond_false, eq_codes _ hm.codes, eq_texts _ hm.args, eq_texts _ hm.outs, eq_frames _ hm.frames, eq_files _ hm.files, eq_texts _ hm.said, Option.bind_some, Bool.not_true]
end
section
theorem pre_same (s : ByteArray) : ∃ b, R.l6PrefixOk s = some b ∧ I.pathText s = some b := by
 rw [R.l6PrefixOk_eq, I.pathText_eq]
 by_cases h1 : (s.size : Int) > 60
 ·rw [bif_t (decide_eq_true h1), bif_t (decide_eq_true h1)]; exact ⟨_, rfl, rfl⟩
 ·rw [bif_f (decide_eq_false h1), bif_f (decide_eq_false h1)]
  obtain ⟨b, h2, h3⟩ := pre_loop s (by omega) s.size 0 (by omega)
  exact ⟨b, h2, h3⟩
theorem wait_same (m : TMachine) : ∃ b, R.l9WaitOk m = some b ∧ I.Machine_waitOk (m.gCodes, (m.gArgs, (m.gOuts, (m.gFrames, (m.gSteps, (m.gLooks, (m.gKind, (m.gName, (m.gHold, (m.gOver, (m.gEnd, (m.gText, (m.gFiles, m.gSaid))))))))))))) = some (b, (m.gCodes, (m.gArgs, (m.gOuts, (m.gFrames, (m.gSteps, (m.gLooks, (m.gKind, (m.gName, (m.gHold, (m.gOver, (m.gEnd, (m.gText, (m.gFiles, m.gSaid)))))))))))))) ∧ (b = true → m.gKind ≤ 4) := by
 rw [R.l9WaitOk_eq, I.Machine_waitOk_eq]
 simp only [R_in, Option.bind_some]
 by_cases h0 : m.gKind = 0
 ·rw [eqt h0, cond_true, cond_true]
  cases bEq m.gName ⟨#[]⟩ with
  | false => exact ⟨false, rfl, rfl, by simp⟩
  | true => exact ⟨_, rfl, rfl, fun _ => by omega⟩
 ·rw [eqf h0, cond_false, cond_false]
  by_cases h3 : m.gKind = 3
  ·rw [eqt h3, cond_true, eqf (show m.gKind ≠ 1 by omega), cond_false, eqf (show m.gKind ≠ 2 by omega), cond_false, I.Machine_waitOk.l215_eq, eqf (show m.gKind ≠ 4 by omega), cond_false, eqt h3, cond_true]
   obtain ⟨b, b1, b2⟩ := pre_same m.gName
   rw [b1, b2, Option.bind_some, Option.bind_some]
   cases b with
   | false => exact ⟨false, rfl, rfl, by simp⟩
   | true =>
    rw [nef h3, decide_eq_true (show (1 : Int) ≤ m.gKind by omega), decide_eq_true (show m.gKind ≤ 4 by omega)]
    cases decide ((m.gHold.size : Int) ≤ 3000) with
    | false => exact ⟨false, rfl, rfl, by simp⟩
    | true =>
     cases bEq m.gHold ⟨#[]⟩ with
     | false => exact ⟨false, rfl, rfl, by simp⟩
     | true => exact ⟨_, rfl, rfl, fun _ => by omega⟩
  ·rw [eqf h3, cond_false, net h3, cond_true]
   obtain ⟨b, b1, b2⟩ := path_same m.gName
   rw [b1, Option.bind_some]
   by_cases hr : 1 ≤ m.gKind ∧ m.gKind ≤ 4
   ·have e : (bif m.gKind == 1 then I.Machine_waitOk.l215 m.gKind (m.gKind == 1) m.gCodes m.gArgs m.gOuts m.gFrames m.gSteps m.gLooks m.gKind m.gName m.gHold m.gOver m.gEnd m.gText m.gFiles m.gSaid else bif m.gKind == 2 then I.Machine_waitOk.l215 m.gKind (m.gKind == 2) m.gCodes m.gArgs m.gOuts m.gFrames m.gSteps m.gLooks m.gKind m.gName m.gHold m.gOver m.gEnd m.gText m.gFiles m.gSaid else I.Machine_waitOk.l215 m.gKind (m.gKind == 4) m.gCodes m.gArgs m.gOuts m.gFrames m.gSteps m.gLooks m.gKind m.gName m.gHold m.gOver m.gEnd m.gText m.gFiles m.gSaid) = I.Machine_waitOk.l215 m.gKind true m.gCodes m.gArgs m.gOuts m.gFrames m.gSteps m.gLooks m.gKind m.gName m.gHold m.gOver m.gEnd m.gText m.gFiles m.gSaid := by
     by_cases h1 : m.gKind = 1
     ·rw [eqt h1]; rfl
     ·rw [eqf h1]
      by_cases h2 : m.gKind = 2
      ·rw [eqt h2]; rfl
      ·rw [eqf h2, eqt (show m.gKind = 4 by omega)]; rfl
    rw [e, I.Machine_waitOk.l215_eq, cond_true, b2, Option.bind_some, decide_eq_true hr.1, decide_eq_true hr.2]
    cases b with
    | false => exact ⟨false, rfl, rfl, by simp⟩
    | true =>
     cases decide ((m.gHold.size : Int) ≤ 3000) with
     | false => exact ⟨false, rfl, rfl, by simp⟩
     | true =>
      cases bEq m.gHold ⟨#[]⟩ with
      | true => exact ⟨_, rfl, rfl, fun _ => hr.2⟩
      | false =>
       cases (m.gKind == 4) with
       | true => exact ⟨_, rfl, rfl, fun _ => hr.2⟩
       | false => exact ⟨false, rfl, rfl, by simp⟩
   ·rw [eqf (show m.gKind ≠ 1 by omega), cond_false, eqf (show m.gKind ≠ 2 by omega), cond_false, I.Machine_waitOk.l215_eq, eqf (show m.gKind ≠ 4 by omega), cond_false, eqf h3, cond_false]
    have : (decide (1 ≤ m.gKind) && decide (m.gKind ≤ 4)) = false := by
     by_cases h1 : 1 ≤ m.gKind
     ·rw [decide_eq_false (show ¬ m.gKind ≤ 4 by omega)]; simp
     ·rw [decide_eq_false h1]; rfl
    rw [this]
    refine ⟨false, ?_, rfl, by simp⟩
    cases b <;> rfl
theorem codes_run (m : TMachine) (hm : MachL SM m) : ∃ b : Bool, R.ValidMachine.l1012 0 m = (bif b then (R.l9FramesOk m).bind fun (r0 : Bool) => some r0 else some false) ∧
  I.ValidMachine.l8180 m.gCodes m.gCodes.length 0 m.gCodes m.gArgs m.gOuts m.gFrames m.gSteps m.gLooks m.gKind m.gName m.gHold m.gOver m.gEnd m.gText m.gFiles m.gSaid = (bif b then I.ValidMachine.l8180 m.gCodes m.gCodes.length m.gCodes.length m.gCodes m.gArgs m.gOuts m.gFrames m.gSteps m.gLooks m.gKind m.gName m.gHold m.gOver m.gEnd m.gText m.gFiles m.gSaid else some false) ∧ (b = true → ∀ ci (h : ci < m.gCodes.length), Valid m.gCodes[ci]) := by
 have hl : m.gCodes.length ≤ 1048576 := hm.codes.1
 have key : ∀ (q k : Nat), k + q = m.gCodes.length → ∃ b : Bool, R.ValidMachine.l1012 k m = (bif b then (R.l9FramesOk m).bind fun (r0 : Bool) => some r0 else some false) ∧
   I.ValidMachine.l8180 m.gCodes m.gCodes.length k m.gCodes m.gArgs m.gOuts m.gFrames m.gSteps m.gLooks m.gKind m.gName m.gHold m.gOver m.gEnd m.gText m.gFiles m.gSaid = (bif b then I.ValidMachine.l8180 m.gCodes m.gCodes.length m.gCodes.length m.gCodes m.gArgs m.gOuts m.gFrames m.gSteps m.gLooks m.gKind m.gName m.gHold m.gOver m.gEnd m.gText m.gFiles m.gSaid else some false) ∧ (b = true → ∀ ci (h : ci < m.gCodes.length), k ≤ ci → Valid m.gCodes[ci]) := by
  intro q
  induction q with
  | zero =>
   intro k hk
   obtain rfl : k = m.gCodes.length := (by omega)
   rw [R.ValidMachine.l1012_eq, bif_f (ge_dec (Nat.le_refl _))]
   exact ⟨true, rfl, rfl, fun _ ci h h' => by omega⟩
  | succ q ih =>
   intro k hk
   have hkl : k < m.gCodes.length := by omega
   have hc : codeL SM m.gCodes[k] := hm.codes.2 _ (List.getElem_mem hkl)
   obtain ⟨v, v1, v2, v3⟩ := codes_valid hc.1 fun f hf => (hc.2 f hf).2.1
   rw [R.ValidMachine.l1012_eq, bif_t (lt_dec hkl), bif_t (inB_nat hkl), Int.toNat_natCast, getD_lt hkl, v1, Option.bind_some, I.ValidMachine.l8180_eq m.gCodes (m.gCodes.length : Int) (k : Int), bif_t (lt_dec hkl), bif_t (inB_nat hkl), Int.toNat_natCast, getD_lt hkl, v2, Option.bind_some, wi_succ (by omega)]
   cases v with
   | false => exact ⟨false, rfl, rfl, by simp⟩
   | true =>
    obtain ⟨b, b1, b2, b3⟩ := ih (k + 1) (by omega)
    refine ⟨b, b1, b2, fun hb ci h hi => ?_⟩
    by_cases hci : ci = k
    ·subst hci; exact v3 rfl
    ·exact b3 hb ci h (by omega)
 obtain ⟨b, b1, b2, b3⟩ := key _ 0 (Nat.zero_add _)
 exact ⟨b, b1, b2, fun hb ci h => b3 hb ci h (Nat.zero_le _)⟩
theorem over_same (m : TMachine) (hm : MachL SM m) : ∃ b, R.l9OverOk m = some b ∧ (bif ((m.gCodes.length : Nat) : Int) == 0 then
  bif ((m.gArgs.length : Nat) : Int) == 0 then
   bif ((m.gOuts.length : Nat) : Int) == 0 then
   bif ((m.gFrames.length : Nat) : Int) == 0 then
    bif m.gLooks == 0 then
    bif m.gKind == 0 then
     bif bEq m.gName (ByteArray.mk #[]) then
     bif bEq m.gHold (ByteArray.mk #[]) then
      bif decide (m.gEnd ≥ 0) then
      bif decide (m.gEnd ≤ 5) then
      bif decide ((m.gText.size : Int) ≤ 3000) then
      bif m.gEnd == 0 then
      some true
      else
      some (((m.gFiles.length : Nat) : Int) == 0)
      else
      some false
      else
      some false
      else
      some false
     else
     some false
     else
     some false
    else
    some false
    else
    some false
   else
   some false
   else
   some false
  else
  some false
  else
  some false) = some b := by
 have hl : m.gCodes.length ≤ 1048576 := hm.codes.1
 have hl1 : m.gArgs.length ≤ 1048576 := hm.args.1
 have hl2 : m.gOuts.length ≤ 1048576 := hm.outs.1
 have hl3 : m.gFrames.length ≤ 1048576 := hm.frames.1
 rw [R.l9OverOk_eq, wi (n := (m.gCodes.length : Int) + (m.gArgs.length : Int)) (by omega) (by omega), wi (n := (m.gCodes.length : Int) + (m.gArgs.length : Int) + (m.gOuts.length : Int)) (by omega) (by omega), wi (by omega) (by omega), R_in, Option.bind_some]
 by_cases h : (m.gCodes.length : Int) + (m.gArgs.length : Int) + (m.gOuts.length : Int) + (m.gFrames.length : Int) > 0
 ·rw [bif_t (decide_eq_true h)]
  refine ⟨false, rfl, ?_⟩
  by_cases c1 : ((m.gCodes.length : Nat) : Int) = 0
  ·rw [eqt c1, cond_true]
   by_cases c2 : ((m.gArgs.length : Nat) : Int) = 0
   ·rw [eqt c2, cond_true]
    by_cases c3 : ((m.gOuts.length : Nat) : Int) = 0
    ·rw [eqt c3, cond_true, eqf (show ((m.gFrames.length : Nat) : Int) ≠ 0 by omega)]; rfl
    ·rw [eqf c3]; rfl
   ·rw [eqf c2]; rfl
  ·rw [eqf c1]; rfl
 ·rw [bif_f (decide_eq_false h), eqt (show ((m.gCodes.length : Nat) : Int) = 0 by omega), eqt (show ((m.gArgs.length : Nat) : Int) = 0 by omega), eqt (show ((m.gOuts.length : Nat) : Int) = 0 by omega), eqt (show ((m.gFrames.length : Nat) : Int) = 0 by omega), cond_true, cond_true, cond_true, cond_true]
  by_cases c1 : m.gLooks = 0
  ·rw [nef c1, eqt c1, cond_false, cond_true]
   by_cases c2 : m.gKind = 0
   ·rw [nef c2, eqt c2, cond_false, cond_true]
    cases bEq m.gName ⟨#[]⟩ with
    | false => exact ⟨_, rfl, rfl⟩
    | true =>
     cases bEq m.gHold ⟨#[]⟩ with
     | false => exact ⟨_, rfl, rfl⟩
     | true =>
      show ∃ b, (bif decide (0 ≤ m.gEnd) && decide (m.gEnd ≤ 5) then _ else _) = some b ∧ (bif decide (0 ≤ m.gEnd) then _ else _) = some b
      cases decide (0 ≤ m.gEnd) with
      | false => exact ⟨_, rfl, rfl⟩
      | true =>
       cases decide (m.gEnd ≤ 5) with
       | false => exact ⟨_, rfl, rfl⟩
       | true =>
        cases decide ((m.gText.size : Int) ≤ 3000) with
        | false => exact ⟨_, rfl, rfl⟩
        | true => cases (m.gEnd == 0) <;> exact ⟨_, rfl, rfl⟩
   ·rw [net c2, eqf c2]; exact ⟨_, rfl, rfl⟩
  ·rw [net c1, eqf c1]; exact ⟨_, rfl, rfl⟩
theorem valid_machine (m : TMachine) (hm : MachL SM m) : ∃ b, R.ValidMachine m = some b ∧ I.ValidMachine m = some b := by
 have hl : m.gCodes.length ≤ 1048576 := hm.codes.1
 have hl1 : m.gArgs.length ≤ 1048576 := hm.args.1
 have hl2 : m.gOuts.length ≤ 1048576 := hm.outs.1
 have hl3 : m.gFrames.length ≤ 1048576 := hm.frames.1
 have hl4 : m.gSaid.length ≤ 1048576 := hm.said.1
 rw [R.ValidMachine_eq, I.ValidMachine_eq]
 obtain ⟨bf, f1, f2, f3⟩ := files_same m.gFiles
 rw [f1, f2, Option.bind_some, Option.bind_some]
 cases bf with
 | false => exact ⟨_, rfl, rfl⟩
 | true =>
 have f3 := f3 rfl
 rw [R_texts _ hl4, Option.bind_some, R_in, Option.bind_some, Bool.not_true, cond_false, cond_false]
 by_cases s1 : (m.gSaid.length : Int) > 50
 ·rw [bif_t (b := decide ((m.gSaid.length : Int) > 50)) (decide_eq_true s1), decide_eq_false (show ¬ (m.gSaid.length : Int) ≤ 50 by omega)]; exact ⟨_, rfl, rfl⟩
 rw [bif_f (b := decide ((m.gSaid.length : Int) > 50)) (decide_eq_false s1), decide_eq_true (show (m.gSaid.length : Int) ≤ 50 by omega), Bool.true_and]
 have said := I_said m.gSaid hl4 m.gCodes m.gArgs m.gOuts m.gFrames m.gSteps m.gLooks m.gKind m.gName m.gHold m.gOver m.gEnd m.gText m.gFiles m.gSaid
 rw [said]
 by_cases t1 : m.gSteps < 0
 ·rw [bif_t (b := decide (m.gSteps < 0)) (decide_eq_true t1), decide_eq_false (show ¬ 0 ≤ m.gSteps by omega)]
  cases m.gSaid.all shortT <;> exact ⟨_, rfl, rfl⟩
 rw [bif_f (b := decide (m.gSteps < 0)) (decide_eq_false t1), decide_eq_true (show 0 ≤ m.gSteps by omega), Bool.true_and]
 by_cases t2 : m.gSteps > 4000
 ·rw [bif_t (b := decide (m.gSteps > 4000)) (decide_eq_true t2), decide_eq_false (show ¬ m.gSteps ≤ 4000 by omega)]
  cases m.gSaid.all shortT <;> exact ⟨_, rfl, rfl⟩
 rw [bif_f (b := decide (m.gSteps > 4000)) (decide_eq_false t2), decide_eq_true (show m.gSteps ≤ 4000 by omega)]
 cases m.gSaid.all shortT with
 | false => exact ⟨_, rfl, rfl⟩
 | true =>
 rw [Bool.not_true, cond_false, cond_false, cond_true, I.ValidMachine.l116_eq, bif_f (ge_dec (Nat.le_refl _))]
 by_cases hov : m.gOver = true
 ·rw [bif_t (b := m.gOver) hov, bif_t (b := m.gOver) hov]
  obtain ⟨b, b1, b2⟩ := over_same m hm
  rw [b1, b2]
  exact ⟨b, rfl, rfl⟩
 have hov : m.gOver = false := by simpa using hov
 rw [bif_f (b := m.gOver) hov, bif_f (b := m.gOver) hov, R_in, Option.bind_some]
 by_cases c1 : (m.gCodes.length : Int) < 1
 ·rw [bif_t (b := decide ((m.gCodes.length : Int) < 1)) (decide_eq_true c1), decide_eq_false (show ¬ (1 : Int) ≤ (m.gCodes.length : Int) by omega)]; exact ⟨_, rfl, rfl⟩
 rw [bif_f (b := decide ((m.gCodes.length : Int) < 1)) (decide_eq_false c1), decide_eq_true (show (1 : Int) ≤ (m.gCodes.length : Int) by omega), Bool.true_and]
 by_cases c2 : (m.gCodes.length : Int) > 40
 ·rw [bif_t (b := decide ((m.gCodes.length : Int) > 40)) (decide_eq_true c2), decide_eq_false (show ¬ (m.gCodes.length : Int) ≤ 40 by omega)]; exact ⟨_, rfl, rfl⟩
 rw [bif_f (b := decide ((m.gCodes.length : Int) > 40)) (decide_eq_false c2), decide_eq_true (show (m.gCodes.length : Int) ≤ 40 by omega), Bool.not_true, cond_false]
 by_cases c3 : (m.gArgs.length : Int) = (m.gCodes.length : Int)
 case neg => rw [net c3]; exact ⟨_, rfl, rfl⟩
 rw [nef c3, cond_false, cond_false, R_texts _ hl1, Option.bind_some, R_in, Option.bind_some, decide_eq_true (show (m.gArgs.length : Int) ≤ 40 by omega), Bool.true_and]
 obtain ⟨bj, j1, j2⟩ := job_same (TJob.mk (ByteArray.mk #[]) m.gOuts)
 obtain ⟨bw, w1, w2, w3⟩ := wait_same m
 rw [j1, j2, w1]
 simp only [Option.bind_some]
 rw [R_subset m hl2 (by omega), I_args m.gArgs hl1 m.gCodes m.gArgs m.gOuts m.gFrames m.gSteps m.gLooks m.gKind m.gName m.gHold m.gOver m.gEnd m.gText m.gFiles m.gSaid, I_subset m.gCodes m.gArgs m.gOuts m.gFrames m.gSteps m.gLooks m.gKind m.gName m.gHold m.gOver m.gEnd m.gText m.gFiles m.gSaid hl2 (by omega)]
 obtain ⟨bc, k1, k2, k3⟩ := codes_run m hm
 rw [k1, k2, I.ValidMachine.l8180_eq, bif_f (ge_dec (Nat.le_refl _))]
 have fin : bc = true → ∃ b, (bif !bw then some false else (R.l9FramesOk m).bind fun (r0 : Bool) => some r0) = some b ∧ ((I.Machine_framesOk (m.gCodes, (m.gArgs, (m.gOuts, (m.gFrames, (m.gSteps, (m.gLooks, (m.gKind, (m.gName, (m.gHold, (m.gOver, (m.gEnd, (m.gText, (m.gFiles, m.gSaid)))))))))))))).bind fun (r0 : (Bool × (List TCode × (List ByteArray × (List ByteArray × (List TFrame × (Int × (Int × (Int × (ByteArray × (ByteArray × (Bool × (Int × (ByteArray × (List TFile × List ByteArray))))))))))))))) =>
   bif r0.fst then (I.Machine_waitOk r0.snd).bind fun (r1 : (Bool × (List TCode × (List ByteArray × (List ByteArray × (List TFrame × (Int × (Int × (Int × (ByteArray × (ByteArray × (Bool × (Int × (ByteArray × (List TFile × List ByteArray))))))))))))))) => some r1.fst else some false) = some b := fun hb => by
  obtain ⟨br, bi, h1, h2⟩ := frames_same m (by omega) (by omega) hl3 (k3 hb)
  rw [h2, Option.bind_some]
  cases bw with
  | false =>
   refine ⟨false, rfl, ?_⟩
   cases bi with
   | false => rfl
   | true => simp only [cond_true]; rw [w2]; rfl
  | true =>
   obtain ⟨h3, h4⟩ := h1 (w3 rfl)
   subst h4
   refine ⟨br, by rw [h3]; rfl, ?_⟩
   cases br with
   | false => rfl
   | true => simp only [cond_true]; rw [w2]; rfl
 have lk : (decide (0 ≤ m.gLooks) && decide (m.gLooks ≤ 100)) = bif decide (m.gLooks < 0) then false else bif decide (m.gLooks > 100) then false else true := by
  by_cases a1 : m.gLooks < 0
  ·rw [decide_eq_true a1, decide_eq_false (show ¬ 0 ≤ m.gLooks by omega)]; rfl
  ·rw [decide_eq_false a1, decide_eq_true (show 0 ≤ m.gLooks by omega)]
   by_cases a2 : m.gLooks > 100
   ·rw [decide_eq_true a2, decide_eq_false (show ¬ m.gLooks ≤ 100 by omega)]; rfl
   ·rw [decide_eq_false a2, decide_eq_true (show m.gLooks ≤ 100 by omega)]; rfl
 rw [lk]
 cases decide (m.gLooks < 0) with
 | true => cases m.gArgs.all shortT <;> cases bj <;> exact ⟨_, rfl, rfl⟩
 | false =>
 cases decide (m.gLooks > 100) with
 | true => cases m.gArgs.all shortT <;> cases bj <;> exact ⟨_, rfl, rfl⟩
 | false =>
 cases (m.gEnd != 0) with
 | true => cases m.gArgs.all shortT <;> cases bj <;> exact ⟨_, rfl, rfl⟩
 | false =>
 cases bEq m.gText ⟨#[]⟩ with
 | false => cases m.gArgs.all shortT <;> cases bj <;> exact ⟨_, rfl, rfl⟩
 | true =>
 cases bj with
 | false => cases m.gArgs.all shortT <;> exact ⟨_, rfl, rfl⟩
 | true =>
 cases m.gArgs.all shortT with
 | false => exact ⟨_, rfl, rfl⟩
 | true =>
 cases m.gFiles.all (inOuts m.gOuts) with
 | false => cases bw <;> exact ⟨_, rfl, rfl⟩
 | true =>
 cases bc with
 | false => cases bw <;> exact ⟨_, rfl, rfl⟩
 | true => exact fin rfl
theorem fnValidMachine (m : TMachine) (hm : MachL BIG m) : L.FnExactValidMachine m = some true := by
 obtain ⟨q, hq, _, hs⟩ := sz_machine m hm
 rw [L.FnExactValidMachine_eq, hq, Option.bind_some]
 by_cases h0 : q < 0
 ·rw [bif_t (decide_eq_true h0)]
 ·rw [bif_f (decide_eq_false h0)]
  have h1 := hs (by omega)
  obtain ⟨b, b1, b2⟩ := valid_machine m h1
  have hb : (!(b == b)) = false := by simp
  simp only [to_machine m h1, Option.bind_some, b1, b2, hb, eq_machine m h1, Bool.not_true, cond_false]
end
end Go.KM.M1
