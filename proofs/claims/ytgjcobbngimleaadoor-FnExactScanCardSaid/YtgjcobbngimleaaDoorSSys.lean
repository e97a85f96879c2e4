/- The system of the law's functions: sound; and what the row lays. Conditions: none. -/
import Derived.Test.YtgjcobbngimleaaDoorSSg
import Derived.Test.YtgjcobbngimleaaDoorKmZb
import Derived.Shelf.Vars
import Derived.Test.YtgjcobbngimleaaDoorShelf
import Derived.Test.YtgjcobbngimleaaDoorRows
namespace Go.KM.S1
open Go Go.KM Go.RowKit Go.Proofs
open Go.KM.Fam (Dn dflt)
open Go.KM.Enc (cells sz mkE glob gany u8)
set_option autoImplicit false
set_option linter.unusedVariables false
set_option maxRecDepth 100000
theorem real {f : FuncId} {fn : Func} (h : Tryd.prog.funcs[f]? = some fn) (hb : (!(fn.name == "runtime.NumGoroutine") && fn.body.isSome) = true) : Real Tryd.prog f := by
  simp only [Bool.and_eq_true, Bool.not_eq_true'] at hb
  exact ⟨fn, h, hb.1, by simpa [← Option.not_isSome] using hb.2⟩
theorem tab_space {g : G} {w : World} (hw : WF g w) : Lib.TabIs Tryd.prog w "strings.asciiSpace" .u8 Lib.asciiSpaceTab := wf_tab hw (n := 6) (T := 1000006) (x := ()) rfl (by rfl) (by kernel_rfl)
theorem fields_con (x : ByteArray) (hx : x.size < 4294967281) (ha : ascii x = true) : Con Tryd.prog false 110 [.s x] [] (.fl 9 (fieldsOf x)) [] := by
  refine con_base_fl rfl fun d g w vals hs ha' hw => ?_
  obtain ⟨u, rfl, h1⟩ := vals1 hs ha'
  obtain rfl := rep_s h1
  refine (Tryd.strings_Fields x w hx (fun j b hj => ?_) (tab_space hw)).mono fun e w' ⟨h3, h4⟩ => ⟨?_, _, _, h4, fun i y hy => ?_⟩
  · unfold ascii at ha
    rw [List.all_eq_true] at ha
    exact of_decide_eq_true (ha b (List.mem_of_getElem? hj))
  · have e : (fieldsOf x).length = (Lib.fields x.data.toList).length := List.length_map _
    rw [h3, ← e]; rfl
  · have hy : ((Lib.fields x.data.toList).map fun l => (⟨l.toArray⟩ : ByteArray))[i]? = some y := hy
    rw [List.getElem?_map] at hy
    obtain ⟨l, hl, rfl⟩ := Option.map_eq_some_iff.1 hy
    exact ⟨.s _, .string ⟨l.toArray⟩, rfl, by simp [hl], fun g => .s _⟩
theorem prefix_con (x y : ByteArray) : Con Tryd.prog false 85 [.s x, .s y] [] (.b (Lib.hasPrefix x.data.toList y.data.toList)) [] := by
  refine con_base fun d g w vals hs ha hw => ?_
  obtain ⟨u, v, rfl, h1, h2⟩ := vals2 hs ha
  obtain rfl := rep_s h1
  obtain rfl := rep_s h2
  refine (Tryd.strings_HasPrefix x y w).mono fun e w' ⟨h3, h4⟩ => ⟨_, h3, fun g w' κ => .b _, ?_⟩
  subst h4
  exact Below.refl _ _
theorem indexByte_con (x : ByteArray) (k : IntKind) (c : Int) (hk : k = .u8) : Con Tryd.prog false 132 [.s x, .i k c] [] (.i .i64 (Lib.indexByte x.data.toList c.toNat.toUInt8)) [] := by
  subst hk
  refine con_base fun d g w vals hs ha hw => ?_
  obtain ⟨u, v, rfl, h1, h2⟩ := vals2 hs ha
  obtain rfl := rep_s h1
  obtain rfl := rep_i h2
  refine (Tryd.strings_IndexByte x c w).mono fun e w' ⟨h3, h4⟩ => ⟨_, h3, fun g w' κ => .i _ _, ?_⟩
  subst h4
  exact Below.refl _ _
theorem tup2 {g : G} {w : World} {κ : Nat → Key} {p q : PV} {u v : Value} (h1 : RepV g w (κ 0) p u) (h2 : RepV g w (κ 1) q v) : RepT g w κ (.tup [p, q]) (.tuple #[u, v]) :=
  ⟨_, rfl, rfl, fun i x hx => by
    match i, hx with
    | 0, hx => simp at hx; subst hx; exact ⟨u, rfl, h1⟩
    | 1, hx => simp at hx; subst hx; exact ⟨v, rfl, h2⟩⟩
theorem parseU_con (k k' : IntKind) (x : ByteArray) (b z : Int) (hx : x.size ≤ 281474976710656) (hk : k = .i64) (hk' : k' = .i64) (hb : b = 10) (hz : z = 64) : Con Tryd.prog false 112 [.s x, .i k b, .i k' z] [] (.tup [.i .u64 (pUint x).1, .ifc (pUint x).2]) [] := by
  subst hk hk' hb hz
  refine con_base fun d g w vals hs ha hw => ?_
  obtain ⟨u, v, y, rfl, h3, h4, h5⟩ := vals3 hs ha
  obtain rfl := rep_s h3
  obtain rfl := rep_i h4
  obtain rfl := rep_i h5
  rcases hp : Lib.parseUintB 64 x.data.toList with n | _ | _
  · skip
    have e : pUint x = ((n : Int), true) := by unfold pUint; rw [hp]
    rw [e]
    refine (Tryd.strconv_ParseUint_10_at64_ok x (by omega) n hp w).mono fun e w' ⟨h6, h7⟩ => ⟨_, h6, fun g w' κ => tup2 (RepF.i _ _) RepF.ifcN, ?_⟩
    rcases h7 with rfl | rfl
    · exact Below.refl _ _
    · exact Lib.bytesWorld_below w 5 _
  · skip
    have e : pUint x = (0, false) := by unfold pUint; rw [hp]
    rw [e]
    obtain ⟨t, p, hc⟩ := wf_ifc hw (n := 3) (T := 1000003) (x := ()) rfl rfl
    exact (Tryd.strconv_ParseUint_10_at64_syntax x hx hp _ w hc (.inr ⟨t, p, rfl⟩)).mono fun e w' ⟨N, h6, _, _, h7⟩ => ⟨_, h6, fun g w' κ => tup2 (RepF.i _ _) (RepF.ifcS _ _), h7⟩
  · skip
    have e : pUint x = (18446744073709551615, false) := by unfold pUint; rw [hp]
    rw [e]
    obtain ⟨t, p, hc⟩ := wf_ifc hw (n := 4) (T := 1000004) (x := ()) rfl rfl
    exact (Tryd.strconv_ParseUint_10_at64_range x hx hp _ w hc (.inr ⟨t, p, rfl⟩)).mono fun e w' ⟨N, h6, _, _, h7⟩ => ⟨_, h6, fun g w' κ => tup2 (RepF.i _ _) (RepF.ifcS _ _), h7⟩
theorem fnsL : FnsL Tryd.prog sgs := .cons Tryd.func72 (by kernel_rfl) (.cons Tryd.func73 (by kernel_rfl) (.cons Tryd.func74 (by kernel_rfl) (.cons Tryd.func129 (by kernel_rfl) (.cons Tryd.func105 (by kernel_rfl) (.cons Tryd.func106 (by kernel_rfl) (.cons Tryd.func107 (by kernel_rfl) (.cons Tryd.func75 (by kernel_rfl) (.cons Tryd.func42 (by kernel_rfl) (.cons Tryd.func68 (by kernel_rfl) (.cons Tryd.func69 (by kernel_rfl) (.cons Tryd.func43 (by kernel_rfl) (.cons Tryd.func76 (by kernel_rfl) (.cons Tryd.func108 (by kernel_rfl) (.cons Tryd.func109 (by kernel_rfl) (.cons Tryd.func77 (by kernel_rfl) (.cons Tryd.func78 (by kernel_rfl) (.cons Tryd.func53 (by kernel_rfl) (.cons Tryd.func18 (by kernel_rfl) (.cons Tryd.func80 (by kernel_rfl) (.cons Tryd.func82 (by kernel_rfl) (.cons Tryd.func79 (by kernel_rfl) (.cons Tryd.func111 (by kernel_rfl) (.cons Tryd.func81 (by kernel_rfl) (.cons Tryd.func52 (by kernel_rfl) (.cons Tryd.func71 (by kernel_rfl) (.cons Tryd.func61 (by kernel_rfl) (.cons Tryd.func83 (by kernel_rfl) (.cons Tryd.func113 (by kernel_rfl) (.cons Tryd.func84 (by kernel_rfl) (.cons Tryd.func54 (by kernel_rfl) (.cons Tryd.func19 (by kernel_rfl) (.cons Tryd.func55 (by kernel_rfl) (.cons Tryd.func20 (by kernel_rfl) (.cons Tryd.func21 (by kernel_rfl) (.cons Tryd.func56 (by kernel_rfl) (.cons Tryd.func22 (by kernel_rfl) (.cons Tryd.func23 (by kernel_rfl) (.cons Tryd.func5 (by kernel_rfl) (.nil)))))))))))))))))))))))))))))))))))))))
theorem bs_ok : ∀ f b, lk Y.bs f = some b → ∀ ps v, b ps = some (true, v) → Real Tryd.prog f ∧ Con Tryd.prog false f ps [] v [] ∧ v.noLoc = true := by
  intro f b h ps v hv
  have h : lk [(110, bFields), (85, bHasPrefix), (132, bIndexByte), (112, bParseUint)] f = some b := h
  simp only [lk_cons] at h
  split at h
  · rename_i e; subst e
    cases h
    unfold bFields at hv
    split at hv
    · simp only [Option.some.injEq, Prod.mk.injEq, Bool.and_eq_true, decide_eq_true_eq] at hv
      obtain ⟨⟨h1, h2⟩, rfl⟩ := hv
      exact ⟨real Tryd.func110 (by kernel_rfl), fields_con _ h1 h2, rfl⟩
    · cases hv
  split at h
  · rename_i e; subst e
    cases h
    unfold bHasPrefix at hv
    split at hv
    · simp only [Option.some.injEq, Prod.mk.injEq, true_and] at hv
      subst hv
      exact ⟨real Tryd.func85 (by kernel_rfl), prefix_con _ _, rfl⟩
    · cases hv
  split at h
  · rename_i e; subst e
    cases h
    unfold bIndexByte at hv
    split at hv
    · simp only [Option.some.injEq, Prod.mk.injEq, true_and] at hv
      subst hv
      exact ⟨real Tryd.func132 (by kernel_rfl), indexByte_con _ _ _ rfl, rfl⟩
    · cases hv
  split at h
  · rename_i e; subst e
    cases h
    unfold bParseUint at hv
    split at hv
    · simp only [Option.some.injEq, Prod.mk.injEq, Bool.and_eq_true, decide_eq_true_eq, beq_iff_eq] at hv
      obtain ⟨⟨⟨h0, h1⟩, h2⟩, rfl⟩ := hv
      exact ⟨real Tryd.func112 (by kernel_rfl), parseU_con _ _ _ _ _ h0 rfl rfl h1 h2, rfl⟩
    · cases hv
  · simp [lk] at h
theorem sysOk : SysOk Tryd.prog Y := ⟨tab_ok.1, tab_ok.2, by kernel_rfl, fnsL.ok, bs_ok⟩
theorem globOk {W : World} {l : List (String × DataW Unit)} (hp : (l.all fun x => x.2.handleName?.isNone) = true) (hL : laidMetH Tryd.prog l W) (hS : W.ShapedOpen Tryd.prog) (h1 : ("loop.example/kilnmill/impl.marks", YtgjcobbngimleaaDoor.Rows.laid_loop_example_kilnmill_impl_marks) ∈ l) (h3 : ("strconv.ErrSyntax", YtgjcobbngimleaaDoor.Rows.laid_strconv_ErrSyntax) ∈ l) (h4 : ("strconv.ErrRange", YtgjcobbngimleaaDoor.Rows.laid_strconv_ErrRange) ∈ l) (h6 : ("strings.asciiSpace", YtgjcobbngimleaaDoor.Rows.laid_strings_asciiSpace) ∈ l) (h7 : ("loop.example/kilnmill/impl.typeWords", YtgjcobbngimleaaDoor.Rows.laid_loop_example_kilnmill_impl_typeWords) ∈ l) : GlobOk (G0 W) := by
  refine ⟨fun n T x h => ?_, fun n k h => ?_⟩
  · have h : globF n = some ⟨T, x⟩ := h
    unfold globF at h
    split at h
    · cases h
      exact at_texts encOk (t := 108) (e := 9) 9 _ (fun x => x) (laid_at hp hL h1) (by kernel_rfl) (by kernel_rfl) Tryd.underlying108 Tryd.underlying9 (by kernel_rfl) rfl (fun _ => rfl) (by kernel_rfl)
    · cases h
      exact at_ifc (t := 65) (laid_at hp hL h3) (by kernel_rfl) (by kernel_rfl) Tryd.underlying65
    · cases h
      exact at_ifc (t := 65) (laid_at hp hL h4) (by kernel_rfl) (by kernel_rfl) Tryd.underlying65
    · cases h
      exact at_tab (zs := Lib.asciiSpaceTab) (t := 147) (laid_at hp hL h6) (by kernel_rfl) (by kernel_rfl) Tryd.underlying147 Tryd.underlying5 (by kernel_rfl) (by kernel_rfl)
    · cases h
      exact at_texts encOk (t := 108) (e := 9) 9 _ (fun x => x) (laid_at hp hL h7) (by kernel_rfl) (by kernel_rfl) Tryd.underlying108 Tryd.underlying9 (by kernel_rfl) rfl (fun _ => rfl) (by kernel_rfl)
    · cases h
  · have h : ganyF n = some k := h
    unfold ganyF at h
    cases h
end Go.KM.S1
