/- The system of the law's functions: sound; and what the row lays. Conditions: none. -/
import Derived.Test.YtdhkmgloghlnnaaGreatDoorPSg
import Derived.Test.YtdhkmgloghlnnaaGreatDoorKmZb
import Derived.Shelf.Vars
import Derived.Lib.AppendIntMem
import Derived.Test.YtdhkmgloghlnnaaGreatDoorPb
import Derived.Test.YtdhkmgloghlnnaaGreatDoorPb
import Derived.Test.YtdhkmgloghlnnaaGreatDoorPBld
import Derived.Test.YtdhkmgloghlnnaaGreatDoorPShf
import Derived.Test.YtdhkmgloghlnnaaGreatDoorRows
namespace Go.KM.P1
open Go Go.KM Go.RowKit Go.Proofs
open Go.KM.Fam (Dn dflt)
open Go.KM.Enc (cells sz mkE glob gany u8)
set_option autoImplicit false
set_option linter.unusedVariables false
set_option maxRecDepth 100000
theorem real {f : FuncId} {fn : Func} (h : Tryz.prog.funcs[f]? = some fn) (hb : (!(fn.name == "runtime.NumGoroutine") && fn.body.isSome) = true) : Real Tryz.prog f := by
  simp only [Bool.and_eq_true, Bool.not_eq_true'] at hb
  exact ⟨fn, h, hb.1, by simpa [← Option.not_isSome] using hb.2⟩
theorem tab10 {g : G} {w : World} (hw : WF g w) : Lib.TabIs Tryz.prog w "internal/strconv.uint64pow10" .u64 Lib.pow10Tab := wf_tab hw (n := 4) (T := 1000004) (x := ()) rfl (by rfl) (by kernel_rfl)
theorem tab_space {g : G} {w : World} (hw : WF g w) : Lib.TabIs Tryz.prog w "strings.asciiSpace" .u8 Lib.asciiSpaceTab := wf_tab hw (n := 5) (T := 1000005) (x := ()) rfl (by rfl) (by kernel_rfl)
theorem fields_con (x : ByteArray) (hx : x.size < 4294967281) (ha : ascii x = true) : Con Tryz.prog false 90 [.s x] [] (.fl 9 (fieldsOf x)) [] := by
  refine con_base_fl rfl fun d g w vals hs ha' hw => ?_
  obtain ⟨u, rfl, h1⟩ := vals1 hs ha'
  obtain rfl := rep_s h1
  refine (Tryz.strings_Fields x w hx (fun j b hj => ?_) (tab_space hw)).mono fun e w' ⟨h3, h4⟩ => ⟨?_, _, _, h4, fun i y hy => ?_⟩
  · unfold ascii at ha
    rw [List.all_eq_true] at ha
    exact of_decide_eq_true (ha b (List.mem_of_getElem? hj))
  · have e : (fieldsOf x).length = (Lib.fields x.data.toList).length := List.length_map _
    rw [h3, ← e]; rfl
  · have hy : ((Lib.fields x.data.toList).map fun l => (⟨l.toArray⟩ : ByteArray))[i]? = some y := hy
    rw [List.getElem?_map] at hy
    obtain ⟨l, hl, rfl⟩ := Option.map_eq_some_iff.1 hy
    exact ⟨.s _, .string ⟨l.toArray⟩, rfl, by simp [hl], fun g => .s _⟩
theorem below_of_grow {w w' : World} (h : ∃ k os, w' = Go.Sort.grow (w.drewN k) os) : Below w.heap.size w w' := by
  obtain ⟨k, os, rfl⟩ := h
  exact Lib.below_grow _ w (Nat.le_refl _) k os
theorem fmtUint_con (k k' : IntKind) (n b : Int) (h0 : 0 ≤ n) (h1 : n < 18446744073709551616) (hk : k = .u64) (hk' : k' = .i64) (hb : b = 10) : Con Tryz.prog false 51 [.i k n, .i k' b] [] (.s ⟨(Lib.decDigits n.toNat).toArray⟩) [] := by
  subst hk hk' hb
  obtain ⟨u, rfl⟩ : ∃ u : Nat, n = u := ⟨n.toNat, by omega⟩
  refine con_base fun d g w vals hs ha hw => ?_
  obtain ⟨a, b, rfl, h3, h4⟩ := vals2 hs ha
  obtain rfl := rep_i h3
  obtain rfl := rep_i h4
  exact (Go.Proofs.Bfu.outer u (by omega) w (tab10 hw)).mono fun e w' ⟨h5, h6⟩ => ⟨_, h5, fun g w' κ => .s _, below_of_grow h6⟩
theorem fnsL : FnsL Tryz.prog sgs := .cons Tryz.func21 (by kernel_rfl) (.cons Tryz.func9 (by kernel_rfl) (.cons Tryz.func4 (by kernel_rfl) (.cons Tryz.func26 (by kernel_rfl) (.cons Tryz.func13 (by kernel_rfl) (.cons Tryz.func6 (by kernel_rfl) (.cons Tryz.func11 (by kernel_rfl) (.cons Tryz.func35 (by kernel_rfl) (.cons Tryz.func36 (by kernel_rfl) (.cons Tryz.func53 (by kernel_rfl) (.cons Tryz.func24 (by kernel_rfl) (.cons Tryz.func71 (by kernel_rfl) (.cons Tryz.func42 (by kernel_rfl) (.cons Tryz.func72 (by kernel_rfl) (.cons Tryz.func54 (by kernel_rfl) (.cons Tryz.func73 (by kernel_rfl) (.cons Tryz.func55 (by kernel_rfl) (.cons Tryz.func37 (by kernel_rfl) (.cons Tryz.func38 (by kernel_rfl) (.cons Tryz.func56 (by kernel_rfl) (.cons Tryz.func57 (by kernel_rfl) (.cons Tryz.func39 (by kernel_rfl) (.cons Tryz.func22 (by kernel_rfl) (.cons Tryz.func40 (by kernel_rfl) (.cons Tryz.func41 (by kernel_rfl) (.cons Tryz.func43 (by kernel_rfl) (.cons Tryz.func23 (by kernel_rfl) (.cons Tryz.func10 (by kernel_rfl) (.cons Tryz.func74 (by kernel_rfl) (.cons Tryz.func87 (by kernel_rfl) (.cons Tryz.func75 (by kernel_rfl) (.cons Tryz.func76 (by kernel_rfl) (.cons Tryz.func77 (by kernel_rfl) (.cons Tryz.func78 (by kernel_rfl) (.cons Tryz.func59 (by kernel_rfl) (.cons Tryz.func58 (by kernel_rfl) (.cons Tryz.func44 (by kernel_rfl) (.cons Tryz.func25 (by kernel_rfl) (.cons Tryz.func12 (by kernel_rfl) (.cons Tryz.func5 (by kernel_rfl) (.cons Tryz.func27 (by kernel_rfl) (.cons Tryz.func60 (by kernel_rfl) (.cons Tryz.func61 (by kernel_rfl) (.cons Tryz.func62 (by kernel_rfl) (.cons Tryz.func63 (by kernel_rfl) (.cons Tryz.func64 (by kernel_rfl) (.cons Tryz.func45 (by kernel_rfl) (.cons Tryz.func65 (by kernel_rfl) (.cons Tryz.func88 (by kernel_rfl) (.cons Tryz.func89 (by kernel_rfl) (.cons Tryz.func79 (by kernel_rfl) (.cons Tryz.func66 (by kernel_rfl) (.cons Tryz.func80 (by kernel_rfl) (.cons Tryz.func91 (by kernel_rfl) (.cons Tryz.func81 (by kernel_rfl) (.cons Tryz.func92 (by kernel_rfl) (.cons Tryz.func82 (by kernel_rfl) (.cons Tryz.func67 (by kernel_rfl) (.cons Tryz.func46 (by kernel_rfl) (.cons Tryz.func28 (by kernel_rfl) (.cons Tryz.func14 (by kernel_rfl) (.cons Tryz.func15 (by kernel_rfl) (.cons Tryz.func31 (by kernel_rfl) (.cons Tryz.func32 (by kernel_rfl) (.cons Tryz.func49 (by kernel_rfl) (.cons Tryz.func50 (by kernel_rfl) (.cons Tryz.func70 (by kernel_rfl) (.cons Tryz.func52 (by kernel_rfl) (.cons Tryz.func33 (by kernel_rfl) (.cons Tryz.func17 (by kernel_rfl) (.cons Tryz.func18 (by kernel_rfl) (.cons Tryz.func7 (by kernel_rfl) (.cons Tryz.func34 (by kernel_rfl) (.cons Tryz.func20 (by kernel_rfl) (.cons Tryz.func8 (by kernel_rfl) (.cons Tryz.func3 (by kernel_rfl) (.nil))))))))))))))))))))))))))))))))))))))))))))))))))))))))))))))))))))))))))))
theorem bs_ok : ∀ f b, lk Y.bs f = some b → ∀ ps v, b ps = some (true, v) → Real Tryz.prog f ∧ Con Tryz.prog false f ps [] v [] ∧ v.noLoc = true := by
  intro f b h ps v hv
  have h : lk [(90, bFields), (16, bJoin), (51, bFormatUint)] f = some b := h
  simp only [lk_cons] at h
  split at h
  · rename_i e; subst e
    cases h
    unfold bFields at hv
    split at hv
    · simp only [Option.some.injEq, Prod.mk.injEq, Bool.and_eq_true, decide_eq_true_eq] at hv
      obtain ⟨⟨h1, h2⟩, rfl⟩ := hv
      exact ⟨real Tryz.func90 (by kernel_rfl), fields_con _ h1 h2, rfl⟩
    · cases hv
  split at h
  · rename_i e; subst e
    cases h
    unfold bJoin at hv
    split at hv
    · simp only [Option.some.injEq, Prod.mk.injEq, Bool.and_eq_true, decide_eq_true_eq] at hv
      obtain ⟨⟨h1, h2⟩, rfl⟩ := hv
      exact ⟨real Tryz.func16 (by kernel_rfl), join_con _ _ h1 h2, rfl⟩
    · cases hv
  split at h
  · rename_i e; subst e
    cases h
    unfold bFormatUint at hv
    split at hv
    · simp only [Option.some.injEq, Prod.mk.injEq, Bool.and_eq_true, decide_eq_true_eq, beq_iff_eq] at hv
      obtain ⟨⟨⟨h0, h1⟩, h2⟩, rfl⟩ := hv
      exact ⟨real Tryz.func51 (by kernel_rfl), fmtUint_con _ _ _ _ h0 h1 rfl rfl h2, rfl⟩
    · cases hv
  · simp [lk] at h
theorem sysOk : SysOk Tryz.prog Y := ⟨tab_ok.1, tab_ok.2, by kernel_rfl, fnsL.ok, bs_ok, bb_ok, ws_of (by kernel_rfl)⟩
theorem globOk {W : World} {l : List (String × DataW Unit)} (hp : (l.all fun x => x.2.handleName?.isNone) = true) (hL : laidMetH Tryz.prog l W) (hS : W.ShapedOpen Tryz.prog) (h0 : ("loop.example/kilnmill/impl.typeWords", YtdhkmgloghlnnaaGreatDoor.Rows.laid_loop_example_kilnmill_impl_typeWords) ∈ l) (h1 : ("loop.example/kilnmill/impl.binMarks", YtdhkmgloghlnnaaGreatDoor.Rows.laid_loop_example_kilnmill_impl_binMarks) ∈ l) (h2 : ("loop.example/kilnmill/impl.builts", YtdhkmgloghlnnaaGreatDoor.Rows.laid_loop_example_kilnmill_impl_builts) ∈ l) (h4 : ("internal/strconv.uint64pow10", YtdhkmgloghlnnaaGreatDoor.Rows.laid_internal_strconv_uint64pow10) ∈ l) (h5 : ("strings.asciiSpace", YtdhkmgloghlnnaaGreatDoor.Rows.laid_strings_asciiSpace) ∈ l) : GlobOk (G0 W) := by
  refine ⟨fun n T x h => ?_, fun n k h => ?_⟩
  · have h : globF n = some ⟨T, x⟩ := h
    unfold globF at h
    split at h
    · cases h
      exact at_texts encOk (t := 55) (e := 9) 9 _ (fun x => x) (laid_at hp hL h0) (by kernel_rfl) (by kernel_rfl) Tryz.underlying55 Tryz.underlying9 (by kernel_rfl) rfl (fun _ => rfl) (by kernel_rfl)
    · cases h
      exact at_texts encOk (t := 55) (e := 9) 9 _ (fun x => x) (laid_at hp hL h1) (by kernel_rfl) (by kernel_rfl) Tryz.underlying55 Tryz.underlying9 (by kernel_rfl) rfl (fun _ => rfl) (by kernel_rfl)
    · cases h
      exact at_texts encOk (t := 55) (e := 9) 9 _ (fun x => x) (laid_at hp hL h2) (by kernel_rfl) (by kernel_rfl) Tryz.underlying55 Tryz.underlying9 (by kernel_rfl) rfl (fun _ => rfl) (by kernel_rfl)
    · cases h
      exact at_tab (zs := Lib.pow10Tab) (t := 113) (laid_at hp hL h4) (by kernel_rfl) (by kernel_rfl) Tryz.underlying113 Tryz.underlying80 (by kernel_rfl) (by kernel_rfl)
    · cases h
      exact at_tab (zs := Lib.asciiSpaceTab) (t := 117) (laid_at hp hL h5) (by kernel_rfl) (by kernel_rfl) Tryz.underlying117 Tryz.underlying5 (by kernel_rfl) (by kernel_rfl)
    · cases h
  · have h : ganyF n = some k := h
    unfold ganyF at h
    cases h
end Go.KM.P1
