/- The system of the law's functions: sound; and what the row lays. Conditions: none. -/
import Derived.Test.YtgjcobbngimleaaDoorVSg
import Derived.Test.YtgjcobbngimleaaDoorBFu
import Derived.Test.YtgjcobbngimleaaDoorKmZb
import Derived.Lib.AppendIntMem
import Derived.Shelf.Vars
import Derived.Test.YtgjcobbngimleaaDoorRows
namespace Go.KM.V1
open Go Go.KM Go.RowKit Go.Proofs
open Go.KM.Fam (Dn dflt)
open Go.KM.Enc (cells sz mkE glob gany u8)
set_option autoImplicit false
set_option linter.unusedVariables false
set_option maxRecDepth 100000
theorem real {f : FuncId} {fn : Func} (h : Tryd.prog.funcs[f]? = some fn) (hb : (!(fn.name == "runtime.NumGoroutine") && fn.body.isSome) = true) : Real Tryd.prog f := by
  simp only [Bool.and_eq_true, Bool.not_eq_true'] at hb
  exact ⟨fn, h, hb.1, by simpa [← Option.not_isSome] using hb.2⟩
theorem tab10 {g : G} {w : World} (hw : WF g w) : Lib.TabIs Tryd.prog w "internal/strconv.uint64pow10" .u64 Lib.pow10Tab := wf_tab hw (n := 5) (T := 1000005) (x := ()) rfl (by rfl) (by kernel_rfl)
theorem below_of_grow {w w' : World} (h : ∃ k os, w' = Go.Sort.grow (w.drewN k) os) : Below w.heap.size w w' := by
  obtain ⟨k, os, rfl⟩ := h
  exact Lib.below_grow _ w (Nat.le_refl _) k os
theorem index_con (x y : ByteArray) (hx : x.size < 4294967281) : Con Tryd.prog false 35 [.s x, .s y] [] (.i .i64 (Lib.index x.data.toList y.data.toList)) [] := by
  refine con_base fun d g w vals hs ha hw => ?_
  obtain ⟨u, v, rfl, h1, h2⟩ := vals2 hs ha
  obtain rfl := rep_s h1
  obtain rfl := rep_s h2
  obtain ⟨m, hm⟩ := wf_any hw (n := 2) (k := .i64) rfl
  refine (Tryd.strings_Index x y m w hx hm).mono fun e w' ⟨h3, h4⟩ => ⟨_, h3, fun g w' κ => .i _ _, ?_⟩
  subst h4
  exact Below.refl _ _
theorem fmtInt_con (k k' : IntKind) (n b : Int) (h0 : -9223372036854775808 ≤ n) (h1 : n ≤ 9223372036854775807) (hk : k = .i64) (hk' : k' = .i64) (hb : b = 10) : Con Tryd.prog false 38 [.i k n, .i k' b] [] (.s ⟨(Lib.itoa n).toArray⟩) [] := by
  subst hk hk' hb
  refine con_base fun d g w vals hs ha hw => ?_
  obtain ⟨u, v, rfl, h3, h4⟩ := vals2 hs ha
  obtain rfl := rep_i h3
  obtain rfl := rep_i h4
  exact (Tryd.strconv_FormatInt_10 n h0 h1 w (tab10 hw)).mono fun e w' ⟨h5, h6⟩ => ⟨_, h5, fun g w' κ => .s _, below_of_grow h6⟩
theorem fmtUint_con (k k' : IntKind) (n b : Int) (h0 : 0 ≤ n) (h1 : n < 18446744073709551616) (hk : k = .u64) (hk' : k' = .i64) (hb : b = 10) : Con Tryd.prog false 62 [.i k n, .i k' b] [] (.s ⟨(Lib.decDigits n.toNat).toArray⟩) [] := by
  subst hk hk' hb
  obtain ⟨u, rfl⟩ : ∃ u : Nat, n = u := ⟨n.toNat, by omega⟩
  refine con_base fun d g w vals hs ha hw => ?_
  obtain ⟨a, b, rfl, h3, h4⟩ := vals2 hs ha
  obtain rfl := rep_i h3
  obtain rfl := rep_i h4
  exact (Go.Proofs.Bfu.outer u (by omega) w (tab10 hw)).mono fun e w' ⟨h5, h6⟩ => ⟨_, h5, fun g w' κ => .s _, below_of_grow h6⟩
theorem tup2 {g : G} {w : World} {κ : Nat → Key} {p q : PV} {u v : Value} (h1 : RepV g w (κ 0) p u) (h2 : RepV g w (κ 1) q v) : RepT g w κ (.tup [p, q]) (.tuple #[u, v]) :=
  ⟨_, rfl, rfl, fun i x hx => by
    match i, hx with
    | 0, hx => simp at hx; subst hx; exact ⟨u, rfl, h1⟩
    | 1, hx => simp at hx; subst hx; exact ⟨v, rfl, h2⟩⟩
theorem parse_con (k k' : IntKind) (x : ByteArray) (b z : Int) (hx : x.size ≤ 281474976710656) (hk : k = .i64) (hk' : k' = .i64) (hb : b = 10) (hz : z = 64) : Con Tryd.prog false 37 [.s x, .i k b, .i k' z] [] (.tup [.i .i64 (pInt x).1, .ifc (pInt x).2]) [] := by
  subst hk hk' hb hz
  refine con_base fun d g w vals hs ha hw => ?_
  obtain ⟨u, v, y, rfl, h3, h4, h5⟩ := vals3 hs ha
  obtain rfl := rep_s h3
  obtain rfl := rep_i h4
  obtain rfl := rep_i h5
  rcases hp : Lib.parseIntB 64 x.data.toList with n | _ | _
  · skip
    have e : pInt x = (n, true) := by unfold pInt; rw [hp]
    rw [e]
    refine (Tryd.strconv_ParseInt_10_at64_ok x (by omega) n hp w).mono fun e w' ⟨h6, h7⟩ => ⟨_, h6, fun g w' κ => tup2 (RepF.i _ _) RepF.ifcN, ?_⟩
    rcases h7 with rfl | ⟨t, rfl⟩
    · exact Below.refl _ _
    · exact Lib.bytesWorld_below w 5 t
  · skip
    have e : pInt x = (0, false) := by unfold pInt; rw [hp]
    rw [e]
    obtain ⟨t, p, hc⟩ := wf_ifc hw (n := 3) (T := 1000003) (x := ()) rfl rfl
    exact (Tryd.strconv_ParseInt_10_at64_syntax x hx hp _ w hc (.inr ⟨t, p, rfl⟩)).mono fun e w' ⟨N, h6, _, _, h7⟩ => ⟨_, h6, fun g w' κ => tup2 (RepF.i _ _) (RepF.ifcS _ _), h7⟩
  · skip
    have e : pInt x = (Lib.intSat 64 x.data.toList, false) := by unfold pInt; rw [hp]
    rw [e]
    obtain ⟨t, p, hc⟩ := wf_ifc hw (n := 4) (T := 1000004) (x := ()) rfl rfl
    exact (Tryd.strconv_ParseInt_10_at64_range x hx hp _ w hc (.inr ⟨t, p, rfl⟩)).mono fun e w' ⟨N, h6, _, _, h7⟩ => ⟨_, h6, fun g w' κ => tup2 (RepF.i _ _) (RepF.ifcS _ _), h7⟩
theorem cmp_con (x y : ByteArray) : Con Tryd.prog false 70 [.s x, .s y] [] (.i .i64 (Lib.compareBytes x.data.toList y.data.toList)) [] := by
  refine con_base fun d g w vals hs ha hw => ?_
  obtain ⟨u, v, rfl, h1, h2⟩ := vals2 hs ha
  obtain rfl := rep_s h1
  obtain rfl := rep_s h2
  refine (Tryd.strings_Compare x y w).mono fun e w' ⟨h3, h4⟩ => ⟨_, h3, fun g w' κ => .i _ _, ?_⟩
  subst h4
  exact Below.refl _ _
theorem fnsL : FnsL Tryd.prog sgs := .cons Tryd.func39 (by kernel_rfl) (.cons Tryd.func40 (by kernel_rfl) (.cons Tryd.func100 (by kernel_rfl) (.cons Tryd.func67 (by kernel_rfl) (.cons Tryd.func28 (by kernel_rfl) (.cons Tryd.func127 (by kernel_rfl) (.cons Tryd.func101 (by kernel_rfl) (.cons Tryd.func68 (by kernel_rfl) (.cons Tryd.func69 (by kernel_rfl) (.cons Tryd.func43 (by kernel_rfl) (.cons Tryd.func44 (by kernel_rfl) (.cons Tryd.func102 (by kernel_rfl) (.cons Tryd.func103 (by kernel_rfl) (.cons Tryd.func66 (by kernel_rfl) (.cons Tryd.func41 (by kernel_rfl) (.cons Tryd.func42 (by kernel_rfl) (.cons Tryd.func12 (by kernel_rfl) (.cons Tryd.func13 (by kernel_rfl) (.cons Tryd.func52 (by kernel_rfl) (.cons Tryd.func71 (by kernel_rfl) (.cons Tryd.func61 (by kernel_rfl) (.cons Tryd.func50 (by kernel_rfl) (.cons Tryd.func17 (by kernel_rfl) (.cons Tryd.func45 (by kernel_rfl) (.cons Tryd.func46 (by kernel_rfl) (.cons Tryd.func47 (by kernel_rfl) (.cons Tryd.func48 (by kernel_rfl) (.cons Tryd.func49 (by kernel_rfl) (.cons Tryd.func14 (by kernel_rfl) (.cons Tryd.func51 (by kernel_rfl) (.cons Tryd.func15 (by kernel_rfl) (.cons Tryd.func16 (by kernel_rfl) (.cons Tryd.func32 (by kernel_rfl) (.cons Tryd.func33 (by kernel_rfl) (.cons Tryd.func34 (by kernel_rfl) (.cons Tryd.func36 (by kernel_rfl) (.cons Tryd.func9 (by kernel_rfl) (.cons Tryd.func4 (by kernel_rfl) (.nil))))))))))))))))))))))))))))))))))))))
theorem bs_ok : ∀ f b, lk Y.bs f = some b → ∀ ps v, b ps = some (true, v) → Real Tryd.prog f ∧ Con Tryd.prog false f ps [] v [] ∧ v.noLoc = true := by
  intro f b h ps v hv
  have h : lk [(35, bIndex), (38, bFormatInt), (62, bFormatUint), (37, bParseInt), (70, bCompare)] f = some b := h
  simp only [lk_cons] at h
  split at h
  · rename_i e; subst e
    cases h
    unfold bIndex at hv
    split at hv
    · simp only [Option.some.injEq, Prod.mk.injEq, decide_eq_true_eq] at hv
      obtain ⟨h1, rfl⟩ := hv
      exact ⟨real Tryd.func35 (by kernel_rfl), index_con _ _ h1, rfl⟩
    · cases hv
  split at h
  · rename_i e; subst e
    cases h
    unfold bFormatInt at hv
    split at hv
    · simp only [Option.some.injEq, Prod.mk.injEq, Bool.and_eq_true, decide_eq_true_eq, beq_iff_eq] at hv
      obtain ⟨⟨⟨h0, h1⟩, h2⟩, rfl⟩ := hv
      exact ⟨real Tryd.func38 (by kernel_rfl), fmtInt_con _ _ _ _ h0 h1 rfl rfl h2, rfl⟩
    · cases hv
  split at h
  · rename_i e; subst e
    cases h
    unfold bFormatUint at hv
    split at hv
    · simp only [Option.some.injEq, Prod.mk.injEq, Bool.and_eq_true, decide_eq_true_eq, beq_iff_eq] at hv
      obtain ⟨⟨⟨h0, h1⟩, h2⟩, rfl⟩ := hv
      exact ⟨real Tryd.func62 (by kernel_rfl), fmtUint_con _ _ _ _ h0 h1 rfl rfl h2, rfl⟩
    · cases hv
  split at h
  · rename_i e; subst e
    cases h
    unfold bParseInt at hv
    split at hv
    · simp only [Option.some.injEq, Prod.mk.injEq, Bool.and_eq_true, decide_eq_true_eq, beq_iff_eq] at hv
      obtain ⟨⟨⟨h0, h1⟩, h2⟩, rfl⟩ := hv
      exact ⟨real Tryd.func37 (by kernel_rfl), parse_con _ _ _ _ _ h0 rfl rfl h1 h2, rfl⟩
    · cases hv
  split at h
  · rename_i e; subst e
    cases h
    unfold bCompare at hv
    split at hv
    · simp only [Option.some.injEq, Prod.mk.injEq, true_and] at hv
      subst hv
      exact ⟨real Tryd.func70 (by kernel_rfl), cmp_con _ _, rfl⟩
    · cases hv
  · simp [lk] at h
theorem sysOk : SysOk Tryd.prog Y := ⟨tab_ok.1, tab_ok.2, by kernel_rfl, fnsL.ok, bs_ok⟩

/-! the packages' variables -/
theorem maxLenCell {W : World} (h : W.ShapedOpen Tryd.prog) : ∃ m, W.cell? ⟨2, 0, none⟩ = some (.int .i64 m) :=
  cell_of_shapedOpen_int (t := 3) (zero := #[.int .i64 0]) h (of_decide_eq_true (by kernel_rfl)) (by kernel_rfl) rfl (by kernel_rfl) (by kernel_rfl) Tryd.underlying3
theorem globOk {W : World} {l : List (String × DataW Unit)} (hp : (l.all fun x => x.2.handleName?.isNone) = true) (hL : laidMetH Tryd.prog l W) (hS : W.ShapedOpen Tryd.prog)
    (h5 : ("internal/strconv.uint64pow10", YtgjcobbngimleaaDoor.Rows.laid_internal_strconv_uint64pow10) ∈ l) (h4 : ("strconv.ErrRange", YtgjcobbngimleaaDoor.Rows.laid_strconv_ErrRange) ∈ l) (h3 : ("strconv.ErrSyntax", YtgjcobbngimleaaDoor.Rows.laid_strconv_ErrSyntax) ∈ l)
    (h0 : ("loop.example/kilnmill/impl.builtGives", YtgjcobbngimleaaDoor.Rows.laid_loop_example_kilnmill_impl_builtGives) ∈ l) : GlobOk (G0 W) := by
  refine ⟨fun n T x h => ?_, fun n k h => ?_⟩
  · have h : globF n = some ⟨T, x⟩ := h
    unfold globF at h
    split at h
    · cases h
      exact at_ints encOk (t := 52) (e := 3) 3 _ .i64 (fun x => x) (laid_at hp hL h0) (by kernel_rfl) (by kernel_rfl) Tryd.underlying52 Tryd.underlying3 (by kernel_rfl) rfl (fun _ => rfl) rfl
    · cases h
      exact at_ifc (t := 65) (laid_at hp hL h3) (by kernel_rfl) (by kernel_rfl) Tryd.underlying65
    · cases h
      exact at_ifc (t := 65) (laid_at hp hL h4) (by kernel_rfl) (by kernel_rfl) Tryd.underlying65
    · cases h
      exact at_tab (zs := Lib.pow10Tab) (t := 144) (laid_at hp hL h5) (by kernel_rfl) (by kernel_rfl) Tryd.underlying144 Tryd.underlying74 (by kernel_rfl) (by kernel_rfl)
    · cases h
  · have h : ganyF n = some k := h
    unfold ganyF at h
    split at h
    · cases h
      obtain ⟨m, hm⟩ := maxLenCell hS
      obtain ⟨_, C, E, r, hh, hc⟩ := cell_row hm
      exact ⟨C, m, G0_fz hh, hc⟩
    · cases h
end Go.KM.V1
