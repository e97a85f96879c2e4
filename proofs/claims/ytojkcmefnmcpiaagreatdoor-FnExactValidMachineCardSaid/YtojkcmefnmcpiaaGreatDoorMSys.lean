/- The system of the law's functions: sound; and what the row lays. Conditions: none. -/
import Derived.Test.YtojkcmefnmcpiaaGreatDoorMSg
import Derived.Test.YtojkcmefnmcpiaaGreatDoorKmZz
import Derived.Shelf.Vars
import Derived.Test.YtojkcmefnmcpiaaGreatDoorMShf
import Derived.Test.YtojkcmefnmcpiaaGreatDoorRows
namespace Go.KM.M1
open Go Go.KM Go.RowKit Go.Proofs
open Go.KM.Fam (Dn dflt)
open Go.KM.Enc (cells sz mkE glob gany u8)
set_option autoImplicit false
set_option linter.unusedVariables false
set_option maxRecDepth 100000
theorem real {f : FuncId} {fn : Func} (h : Tryz.prog.funcs[f]? = some fn) (hb : (!(fn.name == "runtime.NumGoroutine") && fn.body.isSome) = true) : Real Tryz.prog f := by
 simp only [Bool.and_eq_true, Bool.not_eq_true'] at hb
 exact ⟨fn, h, hb.1, by simpa [← Option.not_isSome] using hb.2⟩
theorem tab_space {g : G} {w : World} (hw : WF g w) : Lib.TabIs Tryz.prog w "strings.asciiSpace" .u8 Lib.asciiSpaceTab := wf_tab hw (n := 1) (T := 1000001) (x := ()) rfl (by rfl) (by kernel_rfl)
theorem fields_con (x : ByteArray) (hx : x.size < 4294967281) (ha : ascii x = true) : Con Tryz.prog false 125 [.s x] [] (.fl 9 (fieldsOf x)) [] := by
 refine con_base_fl rfl fun d g w vals hs ha' hw => ?_
 obtain ⟨u, rfl, h1⟩ := vals1 hs ha'
 obtain rfl := rep_s h1
 refine (Tryz.strings_Fields x w hx (fun j b hj => ?_) (tab_space hw)).mono fun e w' ⟨h3, h4⟩ => ⟨?_, _, _, h4, fun i y hy => ?_⟩
 ·unfold ascii at ha
  rw [List.all_eq_true] at ha
  exact of_decide_eq_true (ha b (List.mem_of_getElem? hj))
 ·have e : (fieldsOf x).length = (Lib.fields x.data.toList).length := List.length_map _
  rw [h3, ← e]; rfl
 ·have hy : ((Lib.fields x.data.toList).map fun l => (⟨l.toArray⟩ : ByteArray))[i]? = some y := hy
  rw [List.getElem?_map] at hy
  obtain ⟨l, hl, rfl⟩ := Option.map_eq_some_iff.1 hy
  exact ⟨.s _, .string ⟨l.toArray⟩, rfl, by simp [hl], fun g => .s _⟩
theorem fnsL : FnsL Tryz.prog sgs := .cons Tryz.func94 (by kernel_rfl) (.cons Tryz.func113 (by kernel_rfl) (.cons Tryz.func95 (by kernel_rfl) (.cons Tryz.func69 (by kernel_rfl) (.cons Tryz.func53 (by kernel_rfl) (.cons Tryz.func34 (by kernel_rfl) (.cons Tryz.func9 (by kernel_rfl) (.cons Tryz.func10 (by kernel_rfl) (.cons Tryz.func70 (by kernel_rfl) (.cons Tryz.func54 (by kernel_rfl) (.cons Tryz.func35 (by kernel_rfl) (.cons Tryz.func11 (by kernel_rfl) (.cons Tryz.func36 (by kernel_rfl) (.cons Tryz.func12 (by kernel_rfl) (.cons Tryz.func4 (by kernel_rfl) (.cons Tryz.func105 (by kernel_rfl) (.cons Tryz.func117 (by kernel_rfl) (.cons Tryz.func106 (by kernel_rfl) (.cons Tryz.func80 (by kernel_rfl) (.cons Tryz.func60 (by kernel_rfl) (.cons Tryz.func42 (by kernel_rfl) (.cons Tryz.func21 (by kernel_rfl) (.cons Tryz.func22 (by kernel_rfl) (.cons Tryz.func81 (by kernel_rfl) (.cons Tryz.func61 (by kernel_rfl) (.cons Tryz.func43 (by kernel_rfl) (.cons Tryz.func23 (by kernel_rfl) (.cons Tryz.func44 (by kernel_rfl) (.cons Tryz.func24 (by kernel_rfl) (.cons Tryz.func6 (by kernel_rfl) (.cons Tryz.func38 (by kernel_rfl) (.cons Tryz.func37 (by kernel_rfl) (.cons Tryz.func13 (by kernel_rfl) (.cons Tryz.func14 (by kernel_rfl) (.cons Tryz.func15 (by kernel_rfl) (.cons Tryz.func16 (by kernel_rfl) (.cons Tryz.func17 (by kernel_rfl) (.cons Tryz.func18 (by kernel_rfl) (.cons Tryz.func114 (by kernel_rfl) (.cons Tryz.func128 (by kernel_rfl) (.cons Tryz.func122 (by kernel_rfl) (.cons Tryz.func101 (by kernel_rfl) (.cons Tryz.func123 (by kernel_rfl) (.cons Tryz.func115 (by kernel_rfl) (.cons Tryz.func124 (by kernel_rfl) (.cons Tryz.func116 (by kernel_rfl) (.cons Tryz.func96 (by kernel_rfl) (.cons Tryz.func71 (by kernel_rfl) (.cons Tryz.func97 (by kernel_rfl) (.cons Tryz.func76 (by kernel_rfl) (.cons Tryz.func103 (by kernel_rfl) (.cons Tryz.func104 (by kernel_rfl) (.cons Tryz.func77 (by kernel_rfl) (.cons Tryz.func58 (by kernel_rfl) (.cons Tryz.func72 (by kernel_rfl) (.cons Tryz.func40 (by kernel_rfl) (.cons Tryz.func55 (by kernel_rfl) (.cons Tryz.func99 (by kernel_rfl) (.cons Tryz.func100 (by kernel_rfl) (.cons Tryz.func78 (by kernel_rfl) (.cons Tryz.func102 (by kernel_rfl) (.cons Tryz.func75 (by kernel_rfl) (.cons Tryz.func73 (by kernel_rfl) (.cons Tryz.func57 (by kernel_rfl) (.cons Tryz.func98 (by kernel_rfl) (.cons Tryz.func74 (by kernel_rfl) (.cons Tryz.func56 (by kernel_rfl) (.cons Tryz.func39 (by kernel_rfl) (.cons Tryz.func19 (by kernel_rfl) (.cons Tryz.func79 (by kernel_rfl) (.cons Tryz.func59 (by kernel_rfl) (.cons Tryz.func41 (by kernel_rfl) (.cons Tryz.func20 (by kernel_rfl) (.cons Tryz.func5 (by kernel_rfl) (.cons Tryz.func49 (by kernel_rfl) (.cons Tryz.func45 (by kernel_rfl) (.cons Tryz.func25 (by kernel_rfl) (.cons Tryz.func26 (by kernel_rfl) (.cons Tryz.func118 (by kernel_rfl) (.cons Tryz.func126 (by kernel_rfl) (.cons Tryz.func119 (by kernel_rfl) (.cons Tryz.func127 (by kernel_rfl) (.cons Tryz.func120 (by kernel_rfl) (.cons Tryz.func107 (by kernel_rfl) (.cons Tryz.func82 (by kernel_rfl) (.cons Tryz.func88 (by kernel_rfl) (.cons Tryz.func109 (by kernel_rfl) (.cons Tryz.func110 (by kernel_rfl) (.cons Tryz.func91 (by kernel_rfl) (.cons Tryz.func66 (by kernel_rfl) (.cons Tryz.func108 (by kernel_rfl) (.cons Tryz.func83 (by kernel_rfl) (.cons Tryz.func62 (by kernel_rfl) (.cons Tryz.func64 (by kernel_rfl) (.cons Tryz.func84 (by kernel_rfl) (.cons Tryz.func85 (by kernel_rfl) (.cons Tryz.func86 (by kernel_rfl) (.cons Tryz.func87 (by kernel_rfl) (.cons Tryz.func89 (by kernel_rfl) (.cons Tryz.func63 (by kernel_rfl) (.cons Tryz.func90 (by kernel_rfl) (.cons Tryz.func65 (by kernel_rfl) (.cons Tryz.func47 (by kernel_rfl) (.cons Tryz.func46 (by kernel_rfl) (.cons Tryz.func27 (by kernel_rfl) (.cons Tryz.func48 (by kernel_rfl) (.cons Tryz.func28 (by kernel_rfl) (.cons Tryz.func29 (by kernel_rfl) (.cons Tryz.func7 (by kernel_rfl) (.cons Tryz.func111 (by kernel_rfl) (.cons Tryz.func121 (by kernel_rfl) (.cons Tryz.func112 (by kernel_rfl) (.cons Tryz.func92 (by kernel_rfl) (.cons Tryz.func67 (by kernel_rfl) (.cons Tryz.func50 (by kernel_rfl) (.cons Tryz.func30 (by kernel_rfl) (.cons Tryz.func31 (by kernel_rfl) (.cons Tryz.func93 (by kernel_rfl) (.cons Tryz.func68 (by kernel_rfl) (.cons Tryz.func51 (by kernel_rfl) (.cons Tryz.func32 (by kernel_rfl) (.cons Tryz.func52 (by kernel_rfl) (.cons Tryz.func33 (by kernel_rfl) (.cons Tryz.func8 (by kernel_rfl) (.cons Tryz.func3 (by kernel_rfl) (.nil)))))))))))))))))))))))))))))))))))))))))))))))))))))))))))))))))))))))))))))))))))))))))))))))))))))))))))))))))))))))))))))
theorem bs_ok : ∀ f b, lk Y.bs f = some b → ∀ ps v, b ps = some (true, v) → Real Tryz.prog f ∧ Con Tryz.prog false f ps [] v [] ∧ v.noLoc = true := by
 intro f b h ps v hv
 have h : lk [(125, bFields)] f = some b := h
 simp only [lk_cons] at h
 split at h
 ·rename_i e; subst e
  cases h
  unfold bFields at hv
  split at hv
  ·simp only [Option.some.injEq, Prod.mk.injEq, Bool.and_eq_true, decide_eq_true_eq] at hv
   obtain ⟨⟨h1, h2⟩, rfl⟩ := hv
   exact ⟨real Tryz.func125 (by kernel_rfl), fields_con _ h1 h2, rfl⟩
  ·cases hv
 ·simp [lk] at h
theorem sysOk : SysOk Tryz.prog Y := ⟨tab_ok.1, tab_ok.2, by kernel_rfl, fnsL.ok, bs_ok, (fun f b h => by cases h), ws_of (by kernel_rfl)⟩
theorem globOk {W : World} {l : List (String × DataW Unit)} (hp : (l.all fun x => x.2.handleName?.isNone) = true) (hL : laidMetH Tryz.prog l W) (hS : W.ShapedOpen Tryz.prog) (h0 : ("loop.example/kilnmill/impl.builtGives", YtojkcmefnmcpiaaGreatDoor.Rows.laid_loop_example_kilnmill_impl_builtGives) ∈ l) (h1 : ("strings.asciiSpace", YtojkcmefnmcpiaaGreatDoor.Rows.laid_strings_asciiSpace) ∈ l) (h2 : ("loop.example/kilnmill/impl.typeWords", YtojkcmefnmcpiaaGreatDoor.Rows.laid_loop_example_kilnmill_impl_typeWords) ∈ l) : GlobOk (G0 W) := by
 refine ⟨fun n T x h => ?_, fun n k h => ?_⟩
 ·have h : globF n = some ⟨T, x⟩ := h
  unfold globF at h
  split at h
  ·cases h
   exact at_ints encOk (t := 86) (e := 3) 3 _ .i64 (fun x => x) (laid_at hp hL h0) (by kernel_rfl) (by kernel_rfl) Tryz.underlying86 Tryz.underlying3 (by kernel_rfl) rfl (fun _ => rfl) rfl
  ·cases h
   exact at_tab (zs := Lib.asciiSpaceTab) (t := 170) (laid_at hp hL h1) (by kernel_rfl) (by kernel_rfl) Tryz.underlying170 Tryz.underlying5 (by kernel_rfl) (by kernel_rfl)
  ·cases h
   exact at_texts encOk (t := 23) (e := 9) 9 _ (fun x => x) (laid_at hp hL h2) (by kernel_rfl) (by kernel_rfl) Tryz.underlying23 Tryz.underlying9 (by kernel_rfl) rfl (fun _ => rfl) (by kernel_rfl)
  ·cases h
 ·have h : ganyF n = some k := h
  unfold ganyF at h
  cases h
end Go.KM.M1
