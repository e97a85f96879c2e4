/- The system of the law's functions: sound; and what the row lays. Conditions: none. -/
import Derived.Test.YtdhkmgloghlnnaaDoorWSg
import Derived.Test.YtdhkmgloghlnnaaDoorKmZb
import Derived.Shelf.Vars
import Derived.Test.YtdhkmgloghlnnaaDoorWBld
import Derived.Test.YtdhkmgloghlnnaaDoorShelf
import Derived.Test.YtdhkmgloghlnnaaDoorRows
namespace Go.KM.W1
open Go Go.KM Go.RowKit Go.Proofs
open Go.KM.Fam (Dn dflt)
open Go.KM.Enc (cells sz mkE glob gany u8)
set_option autoImplicit false
set_option linter.unusedVariables false
set_option maxRecDepth 100000
theorem real {f : FuncId} {fn : Func} (h : Tryd.prog.funcs[f]? = some fn) (hb : (!(fn.name == "runtime.NumGoroutine") && fn.body.isSome) = true) : Real Tryd.prog f := by
  simp only [Bool.and_eq_true, Bool.not_eq_true'] at hb
  exact ⟨fn, h, hb.1, by simpa [← Option.not_isSome] using hb.2⟩
theorem tab_space {g : G} {w : World} (hw : WF g w) : Lib.TabIs Tryd.prog w "strings.asciiSpace" .u8 Lib.asciiSpaceTab := wf_tab hw (n := 1) (T := 1000001) (x := ()) rfl (by rfl) (by kernel_rfl)
theorem fields_con (x : ByteArray) (hx : x.size < 4294967281) (ha : ascii x = true) : Con Tryd.prog false 152 [.s x] [] (.fl 9 (fieldsOf x)) [] := by
  refine con_base_fl rfl fun d g w vals hs ha' hw => ?_
  obtain ⟨u, rfl, h1⟩ := vals1 hs ha'
  obtain rfl := rep_s h1
  refine (Tryd.strings_Fields x w hx (fun j b hj => ?_) (tab_space hw)).mono fun e w' ⟨h3, h4⟩ => ⟨?_, _, _, h4, fun i y hy => ?_⟩
  · unfold ascii at ha
    rw [List.all_eq_true] at ha
    exact of_decide_eq_true (ha b (List.mem_of_getElem? hj))
  · have e : (fieldsOf x).length = (Lib.fields x.data.toList).length := List.length_map _
    rw [h3, ← e]; rfl
  · have hy : ((Lib.fields x.data.toList).map fun l => (⟨l.toArray⟩ : ByteArray))[i]? = some y := hy
    rw [List.getElem?_map] at hy
    obtain ⟨l, hl, rfl⟩ := Option.map_eq_some_iff.1 hy
    exact ⟨.s _, .string ⟨l.toArray⟩, rfl, by simp [hl], fun g => .s _⟩
theorem fnsL : FnsL Tryd.prog sgs := .cons Tryd.func93 (by kernel_rfl) (.cons Tryd.func129 (by kernel_rfl) (.cons Tryd.func94 (by kernel_rfl) (.cons Tryd.func57 (by kernel_rfl) (.cons Tryd.func29 (by kernel_rfl) (.cons Tryd.func12 (by kernel_rfl) (.cons Tryd.func100 (by kernel_rfl) (.cons Tryd.func132 (by kernel_rfl) (.cons Tryd.func101 (by kernel_rfl) (.cons Tryd.func65 (by kernel_rfl) (.cons Tryd.func33 (by kernel_rfl) (.cons Tryd.func14 (by kernel_rfl) (.cons Tryd.func58 (by kernel_rfl) (.cons Tryd.func86 (by kernel_rfl) (.cons Tryd.func151 (by kernel_rfl) (.cons Tryd.func121 (by kernel_rfl) (.cons Tryd.func51 (by kernel_rfl) (.cons Tryd.func122 (by kernel_rfl) (.cons Tryd.func87 (by kernel_rfl) (.cons Tryd.func123 (by kernel_rfl) (.cons Tryd.func88 (by kernel_rfl) (.cons Tryd.func46 (by kernel_rfl) (.cons Tryd.func59 (by kernel_rfl) (.cons Tryd.func79 (by kernel_rfl) (.cons Tryd.func47 (by kernel_rfl) (.cons Tryd.func89 (by kernel_rfl) (.cons Tryd.func90 (by kernel_rfl) (.cons Tryd.func130 (by kernel_rfl) (.cons Tryd.func95 (by kernel_rfl) (.cons Tryd.func60 (by kernel_rfl) (.cons Tryd.func61 (by kernel_rfl) (.cons Tryd.func30 (by kernel_rfl) (.cons Tryd.func97 (by kernel_rfl) (.cons Tryd.func98 (by kernel_rfl) (.cons Tryd.func131 (by kernel_rfl) (.cons Tryd.func99 (by kernel_rfl) (.cons Tryd.func64 (by kernel_rfl) (.cons Tryd.func62 (by kernel_rfl) (.cons Tryd.func32 (by kernel_rfl) (.cons Tryd.func96 (by kernel_rfl) (.cons Tryd.func63 (by kernel_rfl) (.cons Tryd.func31 (by kernel_rfl) (.cons Tryd.func13 (by kernel_rfl) (.cons Tryd.func39 (by kernel_rfl) (.cons Tryd.func77 (by kernel_rfl) (.cons Tryd.func78 (by kernel_rfl) (.cons Tryd.func40 (by kernel_rfl) (.cons Tryd.func20 (by kernel_rfl) (.cons Tryd.func133 (by kernel_rfl) (.cons Tryd.func153 (by kernel_rfl) (.cons Tryd.func134 (by kernel_rfl) (.cons Tryd.func154 (by kernel_rfl) (.cons Tryd.func135 (by kernel_rfl) (.cons Tryd.func102 (by kernel_rfl) (.cons Tryd.func66 (by kernel_rfl) (.cons Tryd.func109 (by kernel_rfl) (.cons Tryd.func155 (by kernel_rfl) (.cons Tryd.func156 (by kernel_rfl) (.cons Tryd.func136 (by kernel_rfl) (.cons Tryd.func103 (by kernel_rfl) (.cons Tryd.func104 (by kernel_rfl) (.cons Tryd.func67 (by kernel_rfl) (.cons Tryd.func34 (by kernel_rfl) (.cons Tryd.func69 (by kernel_rfl) (.cons Tryd.func105 (by kernel_rfl) (.cons Tryd.func106 (by kernel_rfl) (.cons Tryd.func107 (by kernel_rfl) (.cons Tryd.func108 (by kernel_rfl) (.cons Tryd.func110 (by kernel_rfl) (.cons Tryd.func68 (by kernel_rfl) (.cons Tryd.func111 (by kernel_rfl) (.cons Tryd.func70 (by kernel_rfl) (.cons Tryd.func35 (by kernel_rfl) (.cons Tryd.func15 (by kernel_rfl) (.cons Tryd.func41 (by kernel_rfl) (.cons Tryd.func80 (by kernel_rfl) (.cons Tryd.func120 (by kernel_rfl) (.cons Tryd.func81 (by kernel_rfl) (.cons Tryd.func82 (by kernel_rfl) (.cons Tryd.func83 (by kernel_rfl) (.cons Tryd.func84 (by kernel_rfl) (.cons Tryd.func42 (by kernel_rfl) (.cons Tryd.func21 (by kernel_rfl) (.cons Tryd.func112 (by kernel_rfl) (.cons Tryd.func137 (by kernel_rfl) (.cons Tryd.func113 (by kernel_rfl) (.cons Tryd.func71 (by kernel_rfl) (.cons Tryd.func36 (by kernel_rfl) (.cons Tryd.func16 (by kernel_rfl) (.cons Tryd.func6 (by kernel_rfl) (.nil))))))))))))))))))))))))))))))))))))))))))))))))))))))))))))))))))))))))))))))))))))))))))
theorem bs_ok : ∀ f b, lk Y.bs f = some b → ∀ ps v, b ps = some (true, v) → Real Tryd.prog f ∧ Con Tryd.prog false f ps [] v [] ∧ v.noLoc = true := by
  intro f b h ps v hv
  have h : lk [(152, bFields)] f = some b := h
  simp only [lk_cons] at h
  split at h
  · rename_i e; subst e
    cases h
    unfold bFields at hv
    split at hv
    · simp only [Option.some.injEq, Prod.mk.injEq, Bool.and_eq_true, decide_eq_true_eq] at hv
      obtain ⟨⟨h1, h2⟩, rfl⟩ := hv
      exact ⟨real Tryd.func152 (by kernel_rfl), fields_con _ h1 h2, rfl⟩
    · cases hv
  · simp [lk] at h
theorem sysOk : SysOk Tryd.prog Y := ⟨tab_ok.1, tab_ok.2, by kernel_rfl, fnsL.ok, bs_ok, bb_ok, ws_of (by kernel_rfl)⟩
theorem globOk {W : World} {l : List (String × DataW Unit)} (hp : (l.all fun x => x.2.handleName?.isNone) = true) (hL : laidMetH Tryd.prog l W) (hS : W.ShapedOpen Tryd.prog) (h0 : ("loop.example/kilnmill/impl.builtGives", YtdhkmgloghlnnaaDoor.Rows.laid_loop_example_kilnmill_impl_builtGives) ∈ l) (h1 : ("strings.asciiSpace", YtdhkmgloghlnnaaDoor.Rows.laid_strings_asciiSpace) ∈ l) (h2 : ("loop.example/kilnmill/impl.typeWords", YtdhkmgloghlnnaaDoor.Rows.laid_loop_example_kilnmill_impl_typeWords) ∈ l) : GlobOk (G0 W) := by
  refine ⟨fun n T x h => ?_, fun n k h => ?_⟩
  · have h : globF n = some ⟨T, x⟩ := h
    unfold globF at h
    split at h
    · cases h
      exact at_ints encOk (t := 54) (e := 3) 3 _ .i64 (fun x => x) (laid_at hp hL h0) (by kernel_rfl) (by kernel_rfl) Tryd.underlying54 Tryd.underlying3 (by kernel_rfl) rfl (fun _ => rfl) rfl
    · cases h
      exact at_tab (zs := Lib.asciiSpaceTab) (t := 200) (laid_at hp hL h1) (by kernel_rfl) (by kernel_rfl) Tryd.underlying200 Tryd.underlying5 (by kernel_rfl) (by kernel_rfl)
    · cases h
      exact at_texts encOk (t := 171) (e := 9) 9 _ (fun x => x) (laid_at hp hL h2) (by kernel_rfl) (by kernel_rfl) Tryd.underlying171 Tryd.underlying9 (by kernel_rfl) rfl (fun _ => rfl) (by kernel_rfl)
    · cases h
  · have h : ganyF n = some k := h
    unfold ganyF at h
    cases h
end Go.KM.W1
