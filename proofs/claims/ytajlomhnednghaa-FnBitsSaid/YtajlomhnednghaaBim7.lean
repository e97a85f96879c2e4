/- Texts of this session, put together (wip/tools/pack.py): Bx31, Arith, Value ... Conditions: none. -/
import Derived.Test.YtajlomhnednghaaBim1
import Derived.Test.YtajlomhnednghaaBim4
import Derived.Test.YtajlomhnednghaaBim6
import Derived.Test.YtajlomhnednghaaBiw
import Derived.Laws.BitsLemmas
import Derived.Test.YtajlomhnednghaaBim2
import Derived.Test.YtajlomhnednghaaBim5
import Derived.Test.YtajlomhnednghaaRows
import Derived.WalkKit
import Derived.ProofKit
import Derived.OpenShut
import Derived.ShutString
import Derived.ChangeOld
import Derived.Below
import Derived.SizedLaws
namespace Go.Proofs.Ytajlomhnednghaa.B
open Go.RowKit Go.Proofs.YtajlomhnednghaaW.PrintWords Go.Proofs.YtajlomhnednghaaW.PrintLast Go.Proofs.YtajlomhnednghaaW.PrintMore
attribute [local go_sem] max2_int min2_int max_two min_two max_three min_three max_four min_four   -- for this text's walks alone
set_option linter.unusedVariables false
set_option linter.unusedSimpArgs false

attribute [local go_sem high] eqA34
/-! ### laws_FnBits: function 13 -/
mutual
def laws_FnBits.j0 : Nat → List Int → Bool → Int → Int → ByteArray → Int → Int → ByteArray → Option (Bool)
  | 0, _, _, _, _, _, _, _, _ => none
  | k + 1, x0, x50, x350000, x350001, x350002, x351000, x351001, x351002 => if x50 = true then ((impl_ValidValue.f k x350000 x350001 x350002).bind fun t353 => ((spec_ValidValue.f k x350000 x350001 x350002).bind fun t354 => (if (t353 == t354) = true then ((impl_ValidValue.f k x351000 x351001 x351002).bind fun t355 => ((spec_ValidValue.f k x351000 x351001 x351002).bind fun t356 => (some (t355 == t356)))) else (some false)))) else ((impl_Binary.f k 11 x350000 x350001 x350002 x351000 x351001 x351002).bind fun bt357 => ((impl_Binary.f k 16 x350000 x350001 x350002 x351000 x351001 x351002).bind fun bt362 => ((impl_Binary.f k 12 x350000 x350001 x350002 x351000 x351001 x351002).bind fun bt367 => ((impl_Binary.f k 9 bt362.1 bt362.2.1 bt362.2.2.1 bt367.1 bt367.2.1 bt367.2.2.1).bind fun bt372 => (if bt357.2.2.2.size + bt362.2.2.2.size ≤ 9223372036854775807 then (if (bt357.2.2.2 ++ bt362.2.2.2).size + bt367.2.2.2.size ≤ 9223372036854775807 then (if ((bt357.2.2.2 ++ bt362.2.2.2) ++ bt367.2.2.2).size + bt372.2.2.2.size ≤ 9223372036854775807 then (if (((bt357.2.2.2 ++ bt362.2.2.2) ++ bt367.2.2.2) ++ bt372.2.2.2).toList = ([] : List UInt8) then (laws_FnBits.j1 k x0 (!(bt372.1 == bt357.1) || (!(bt372.2.1 == bt357.2.1) || (!(bt372.2.2.1.toList == bt357.2.2.1.toList)))) x350000 x350001 x350002) else (laws_FnBits.j1 k x0 true x350000 x350001 x350002)) else (none)) else (none)) else (none))))))
def laws_FnBits.j1 : Nat → List Int → Bool → Int → Int → ByteArray → Option (Bool)
  | 0, _, _, _, _, _ => none
  | k + 1, x0, x99, x350000, x350001, x350002 => if x99 = true then (some false) else (laws_FnBits.l0 k ((x0.length : Int) % 70) 17 x350000 x350001 x350002)
def laws_FnBits.l0 : Nat → Int → Int → Int → Int → ByteArray → Option (Bool)
  | 0, _, _, _, _, _ => none
  | k + 1, x14, x15, x350000, x350001, x350002 => if x15 ≤ 18 then ((impl_Binary.f k x15 x350000 x350001 x350002 x350000 x14 (⟨#[]⟩ : ByteArray)).bind fun bt377 => ((impl_Binary.f k x15 bt377.1 bt377.2.1 bt377.2.2.1 x350000 1 (⟨#[]⟩ : ByteArray)).bind fun bt382 => ((impl_Binary.f k x15 x350000 x350001 x350002 x350000 (wrap64 (x14 + 1)) (⟨#[]⟩ : ByteArray)).bind fun bt387 => (if bt377.2.2.2.size + bt382.2.2.2.size ≤ 9223372036854775807 then (if (bt377.2.2.2 ++ bt382.2.2.2).size + bt387.2.2.2.size ≤ 9223372036854775807 then (if ((bt377.2.2.2 ++ bt382.2.2.2) ++ bt387.2.2.2).toList = ([] : List UInt8) then (if (!(bt382.1 == bt387.1) || (!(bt382.2.1 == bt387.2.1) || (!(bt382.2.2.1.toList == bt387.2.2.1.toList)))) = true then (some false) else (laws_FnBits.l0 k x14 (wrap64 (x15 + 1)) x350000 x350001 x350002)) else (some false)) else (none)) else (none))))) else (some true)
end
def laws_FnBits.f (k : Nat) (l0 : List Int) : Option (Bool) := if (l0.length : Int) > 1048576 then (some true) else ((spec_DrawBinary.f k l0).bind fun bt342 => ((spec_ValidValue.f k bt342.2.1 bt342.2.2.1 bt342.2.2.2.1).bind fun t351 => (if t351 = true then ((spec_ValidValue.f k bt342.2.2.2.2.1 bt342.2.2.2.2.2.1 bt342.2.2.2.2.2.2).bind fun t352 => (if t352 = true then (if bt342.2.1 = bt342.2.2.2.2.1 then (laws_FnBits.j0 k l0 (decide (bt342.2.1 < 3)) bt342.2.1 bt342.2.2.1 bt342.2.2.2.1 bt342.2.2.2.2.1 bt342.2.2.2.2.2.1 bt342.2.2.2.2.2.2) else (laws_FnBits.j0 k l0 true bt342.2.1 bt342.2.2.1 bt342.2.2.2.1 bt342.2.2.2.2.1 bt342.2.2.2.2.2.1 bt342.2.2.2.2.2.2)) else (laws_FnBits.j0 k l0 true bt342.2.1 bt342.2.2.1 bt342.2.2.2.1 bt342.2.2.2.2.1 bt342.2.2.2.2.2.1 bt342.2.2.2.2.2.2))) else (laws_FnBits.j0 k l0 true bt342.2.1 bt342.2.2.1 bt342.2.2.2.1 bt342.2.2.2.2.1 bt342.2.2.2.2.2.1 bt342.2.2.2.2.2.2))))
theorem laws_FnBits.mono_l : ∀ k, (∀ y0 y1 y2 y3 y4 y5 y6 y7, LeO (laws_FnBits.j0 k y0 y1 y2 y3 y4 y5 y6 y7) (laws_FnBits.j0 (k + 1) y0 y1 y2 y3 y4 y5 y6 y7)) ∧ (∀ y0 y1 y2 y3 y4, LeO (laws_FnBits.j1 k y0 y1 y2 y3 y4) (laws_FnBits.j1 (k + 1) y0 y1 y2 y3 y4)) ∧ (∀ y0 y1 y2 y3 y4, LeO (laws_FnBits.l0 k y0 y1 y2 y3 y4) (laws_FnBits.l0 (k + 1) y0 y1 y2 y3 y4))
  | 0 => ⟨fun _ _ _ _ _ _ _ _ r h => by simp [laws_FnBits.j0] at h, fun _ _ _ _ _ r h => by simp [laws_FnBits.j1] at h, fun _ _ _ _ _ r h => by simp [laws_FnBits.l0] at h⟩
  | k + 1 => by
    obtain ⟨ih0, ih1, ih2⟩ := laws_FnBits.mono_l k
    refine ⟨?_, ?_, ?_⟩
    · intro y0 y1 y2 y3 y4 y5 y6 y7
      unfold laws_FnBits.j0
      repeat' first
      | (with_reducible exact ih0 _ _ _ _ _ _ _ _)
      | (with_reducible exact ih1 _ _ _ _ _)
      | (with_reducible exact ih2 _ _ _ _ _)
      | (with_reducible exact impl_Binary.mono _ _ _ _ _ _ _ _)
      | (with_reducible exact impl_ValidValue.mono _ _ _ _)
      | (with_reducible exact spec_DrawBinary.mono _ _)
      | (with_reducible exact spec_ValidValue.mono _ _ _ _)
      | (with_reducible exact LeO.refl _)
      | (with_reducible exact LeO.none _)
      | (with_reducible refine LeO.ite ?_ ?_)
      | (with_reducible refine LeO.bind ?_ (fun _ => ?_))
      | exact ih0 _ _ _ _ _ _ _ _
      | exact ih1 _ _ _ _ _
      | exact ih2 _ _ _ _ _
      | exact impl_Binary.mono _ _ _ _ _ _ _ _
      | exact impl_ValidValue.mono _ _ _ _
      | exact spec_DrawBinary.mono _ _
      | exact spec_ValidValue.mono _ _ _ _
      | exact LeO.none _
      | refine LeO.ite ?_ ?_
      | refine LeO.bind ?_ (fun _ => ?_)
    · intro y0 y1 y2 y3 y4
      unfold laws_FnBits.j1
      repeat' first
      | (with_reducible exact ih0 _ _ _ _ _ _ _ _)
      | (with_reducible exact ih1 _ _ _ _ _)
      | (with_reducible exact ih2 _ _ _ _ _)
      | (with_reducible exact impl_Binary.mono _ _ _ _ _ _ _ _)
      | (with_reducible exact impl_ValidValue.mono _ _ _ _)
      | (with_reducible exact spec_DrawBinary.mono _ _)
      | (with_reducible exact spec_ValidValue.mono _ _ _ _)
      | (with_reducible exact LeO.refl _)
      | (with_reducible exact LeO.none _)
      | (with_reducible refine LeO.ite ?_ ?_)
      | (with_reducible refine LeO.bind ?_ (fun _ => ?_))
      | exact ih0 _ _ _ _ _ _ _ _
      | exact ih1 _ _ _ _ _
      | exact ih2 _ _ _ _ _
      | exact impl_Binary.mono _ _ _ _ _ _ _ _
      | exact impl_ValidValue.mono _ _ _ _
      | exact spec_DrawBinary.mono _ _
      | exact spec_ValidValue.mono _ _ _ _
      | exact LeO.none _
      | refine LeO.ite ?_ ?_
      | refine LeO.bind ?_ (fun _ => ?_)
    intro y0 y1 y2 y3 y4
    unfold laws_FnBits.l0
    repeat' first
    | (with_reducible exact ih0 _ _ _ _ _ _ _ _)
    | (with_reducible exact ih1 _ _ _ _ _)
    | (with_reducible exact ih2 _ _ _ _ _)
    | (with_reducible exact impl_Binary.mono _ _ _ _ _ _ _ _)
    | (with_reducible exact impl_ValidValue.mono _ _ _ _)
    | (with_reducible exact spec_DrawBinary.mono _ _)
    | (with_reducible exact spec_ValidValue.mono _ _ _ _)
    | (with_reducible exact LeO.refl _)
    | (with_reducible exact LeO.none _)
    | (with_reducible refine LeO.ite ?_ ?_)
    | (with_reducible refine LeO.bind ?_ (fun _ => ?_))
    | exact ih0 _ _ _ _ _ _ _ _
    | exact ih1 _ _ _ _ _
    | exact ih2 _ _ _ _ _
    | exact impl_Binary.mono _ _ _ _ _ _ _ _
    | exact impl_ValidValue.mono _ _ _ _
    | exact spec_DrawBinary.mono _ _
    | exact spec_ValidValue.mono _ _ _ _
    | exact LeO.none _
    | refine LeO.ite ?_ ?_
    | refine LeO.bind ?_ (fun _ => ?_)
theorem laws_FnBits.mono : ∀ a0 k, LeO (laws_FnBits.f k a0) (laws_FnBits.f (k + 1) a0) := by
  intro a0 k
  obtain ⟨ih0, ih1, ih2⟩ := laws_FnBits.mono_l k
  unfold laws_FnBits.f
  repeat' first
      | (with_reducible exact ih0 _ _ _ _ _ _ _ _)
      | (with_reducible exact ih1 _ _ _ _ _)
      | (with_reducible exact ih2 _ _ _ _ _)
      | (with_reducible exact impl_Binary.mono _ _ _ _ _ _ _ _)
      | (with_reducible exact impl_ValidValue.mono _ _ _ _)
      | (with_reducible exact spec_DrawBinary.mono _ _)
      | (with_reducible exact spec_ValidValue.mono _ _ _ _)
      | (with_reducible exact LeO.refl _)
      | (with_reducible exact LeO.none _)
      | (with_reducible refine LeO.ite ?_ ?_)
      | (with_reducible refine LeO.bind ?_ (fun _ => ?_))
      | exact ih0 _ _ _ _ _ _ _ _
      | exact ih1 _ _ _ _ _
      | exact ih2 _ _ _ _ _
      | exact impl_Binary.mono _ _ _ _ _ _ _ _
      | exact impl_ValidValue.mono _ _ _ _
      | exact spec_DrawBinary.mono _ _
      | exact spec_ValidValue.mono _ _ _ _
      | exact LeO.none _
      | refine LeO.ite ?_ ?_
      | refine LeO.bind ?_ (fun _ => ?_)
def laws_FnBits.T5 : Bool × List (List Nat × List Nat) := (true, [([], []), ([0], [0]), ([], []), ([2, 1], [2]), ([1, 3], [1, 3]), ([4, 3], [4]), ([5], [5]), ([6, 5, 5], [5, 6]), ([5], [5]), ([8, 7, 5], [5, 8]), ([7, 9, 5], [5, 7, 9]), ([5, 10], [5, 10]), ([11, 9, 0, 1, 2, 3, 4, 5, 6, 7, 8, 9, 10, 11], [11])])
def laws_FnBits.B5 : List Nat := [0, 1, 0, 7, 15, 31, 63, 127, 63, 511, 1023, 2047, 4095]
theorem laws_FnBits.tab5 : rtab .any (opsOf Try.f13 5) = laws_FnBits.T5 := by kernel_rfl
theorem laws_FnBits.bits5 : waitsOk laws_FnBits.T5.2 laws_FnBits.B5 = true := by kernel_rfl
set_option maxHeartbeats 8000000 in
set_option maxRecDepth 100000 in
theorem laws_FnBits.calls (k : Nat) (A0 : Option Addr) (c0 : Nat) (l0 : List Int) (r : Bool) (w : World) (hr0 : Kd.C (Kd.int .u8) w A0 l0.length l0) (hc0 : l0.length ≤ c0) (hrt : r = true) (h : laws_FnBits.f k l0 = some r) :
    Calls Try.prog 13 #[.slice A0 l0.length c0] w fun e w' => e = .returned (.bool r) ∧ Below w.heap.size w w' := by
  have hu34 := Try.underlying34
  have HR0 := mk0 hr0
  have HC0 := mk0 hc0
  clear hr0 hc0
  have HB := mk0 (Below.refl w.heap.size w)
  have H : (if (l0.length : Int) > 1048576 then (some true) else ((spec_DrawBinary.f k l0).bind fun bt342 => ((spec_ValidValue.f k bt342.2.1 bt342.2.2.1 bt342.2.2.2.1).bind fun t351 => (if t351 = true then ((spec_ValidValue.f k bt342.2.2.2.2.1 bt342.2.2.2.2.2.1 bt342.2.2.2.2.2.2).bind fun t352 => (if t352 = true then (if bt342.2.1 = bt342.2.2.2.2.1 then (laws_FnBits.j0 k l0 (decide (bt342.2.1 < 3)) bt342.2.1 bt342.2.2.1 bt342.2.2.2.1 bt342.2.2.2.2.1 bt342.2.2.2.2.2.1 bt342.2.2.2.2.2.2) else (laws_FnBits.j0 k l0 true bt342.2.1 bt342.2.2.1 bt342.2.2.2.1 bt342.2.2.2.2.1 bt342.2.2.2.2.2.1 bt342.2.2.2.2.2.2)) else (laws_FnBits.j0 k l0 true bt342.2.1 bt342.2.2.1 bt342.2.2.2.1 bt342.2.2.2.2.1 bt342.2.2.2.2.2.1 bt342.2.2.2.2.2.2))) else (laws_FnBits.j0 k l0 true bt342.2.1 bt342.2.2.1 bt342.2.2.2.1 bt342.2.2.2.2.1 bt342.2.2.2.2.2.1 bt342.2.2.2.2.2.2))))) = some r := h
  clear h
  by_cases c2 : (l0.length : Int) > 1048576
  · rw [if_pos c2] at H
    have c2b0 : decide (1048576 < (l0.length : Int)) = true := decide_eq_true c2
    have c2b1 : decide (1048576 < l0.length) = true := decide_eq_true (by omega)
    clear c2
    obtain rfl := Option.some.inj H
    go_enter Try.func13, Try.ntmps13
    go_wp2
    go_ret
    exact ⟨by first | rfl | (simp [errW_none, errW_some] <;> rfl) | (simp [*, errW_none, errW_some] <;> rfl), by repeat (first | (with_reducible first | exact HB.out | apply wA | apply wN | apply wD) | exact HB.out)⟩
  rw [if_neg c2] at H
  have c2b0 : decide (1048576 < (l0.length : Int)) = false := decide_eq_false c2
  have c2b1 : decide (1048576 < l0.length) = false := decide_eq_false (by omega)
  clear c2
  replace H := Option.bind_eq_some_iff.mp H
  obtain ⟨⟨t342, t343, t344, t345, t346, t347, t348⟩, A30, H⟩ := H
  replace H : ((spec_ValidValue.f k t343 t344 t345).bind fun t351 => (if t351 = true then ((spec_ValidValue.f k t346 t347 t348).bind fun t352 => (if t352 = true then (if t343 = t346 then (laws_FnBits.j0 k l0 (decide (t343 < 3)) t343 t344 t345 t346 t347 t348) else (laws_FnBits.j0 k l0 true t343 t344 t345 t346 t347 t348)) else (laws_FnBits.j0 k l0 true t343 t344 t345 t346 t347 t348))) else (laws_FnBits.j0 k l0 true t343 t344 t345 t346 t347 t348))) = some r := H
  have A3 := mk0 A30
  clear A30
  have HC4 := mk0 H
  clear H
  go_enter Try.func13, Try.ntmps13
  go_upto_region 4 with (first | ((with_reducible refine gate_callee (f := 54) rfl ?_); refine goesL_ (some 27) rfl rfl Try.func54 (by kernel_rfl) rfl #[.slice A0 l0.length c0] rfl (by (try simp only [List.map_toArray, List.map_cons, List.map_nil]); first | done | rfl | (simp only [List.length_drop, List.length_take]; rfl)) ?_; (with_reducible refine (spec_DrawBinary.calls k _ _ l0 t342 t343 t344 t345 t346 t347 t348 _ ?side1 ?side2 A3.out).mono ?_); (case side1 => repeat (first | exact HR0.out | (with_reducible refine Kd.C_alloc ?_ _) | (with_reducible refine Kd.C_drewN ?_ _) | (with_reducible refine Kd.C_drew ?_))); (case side2 => exact HC0.out); rintro e w5 ⟨rfl, hb⟩; refine ⟨_, rfl, ?_⟩; have n0_ := mk0 (below_step (by repeat (first | (with_reducible first | exact HB.out | apply wA | apply wN | apply wD) | exact HB.out)) hb); clear HB; have HB := n0_; clear n0_; (try clear hb); (try clear hb2); (try clear hk); (try clear hi)) | ((with_reducible refine gate_dst (N := 4) rfl ?_); refine box_event ?hg (N := 4) ?hd (cs := #[.int .i64 0, .int .i64 0, .string (⟨#[]⟩ : ByteArray)]) (t := 34) ?hr ?_; (case hd => rfl); (case hg => rfl); (case hr => first | (go_simp; done) | (go_simp; rfl)); intro gb349 hg w6 hbox hb; have n0_ := mk0 (below_step (by repeat (first | (with_reducible first | exact HB.out | apply wA | apply wN | apply wD) | exact HB.out)) hb); have n1_ := mk0 (hbox); have n2_ := mk0 ((by rw [hg]; exact (below_size (by repeat (first | (with_reducible first | exact HB.out | apply wA | apply wN | apply wD) | exact HB.out))) : w.heap.size ≤ gb349)); have n3_ := mk0 ((by rw [hg]; exact (below_size (by repeat (first | (with_reducible first | exact HB.out | apply wA | apply wN | apply wD) | exact HB.out))) : w.heap.size ≤ gb349)); clear HB; have HB := n0_; have BK349 := n1_; have GW349 := n2_; have GE349 := n3_; clear n0_ n1_ n2_ n3_; clear hb hbox hg) | ((with_reducible refine gate_dst (N := 5) rfl ?_); refine box_event ?hg (N := 5) ?hd (cs := #[.int .i64 0, .int .i64 0, .string (⟨#[]⟩ : ByteArray)]) (t := 34) ?hr ?_; (case hd => rfl); (case hg => rfl); (case hr => first | (go_simp; done) | (go_simp; rfl)); intro gb350 hg w7 hbox hb; have n0_ := mk0 (bB (g := gb349) (o := .cells #[.int .i64 0, .int .i64 0, .string (⟨#[]⟩ : ByteArray)] 34 (0, 0)) (by (with_reducible repeat (first | apply bN | apply bD | apply bA)); exact BK349.out) hb); have n1_ := mk0 (below_step (by repeat (first | (with_reducible first | exact HB.out | apply wA | apply wN | apply wD | refine wS ?_ GE349.out) | exact HB.out)) hb); have n2_ := mk0 (hbox); have n3_ := mk0 ((by rw [hg]; exact (below_size (by repeat (first | (with_reducible first | exact HB.out | apply wA | apply wN | apply wD | refine wS ?_ GE349.out) | exact HB.out))) : w.heap.size ≤ gb350)); have n4_ := mk0 ((by rw [hg]; exact (below_size (by repeat (first | (with_reducible first | exact HB.out | apply wA | apply wN | apply wD | refine wS ?_ GE349.out) | exact HB.out))) : w.heap.size ≤ gb350)); have n5_ := mk0 ((by rw [hg]; exact Nat.ne_of_lt (blk_lt (g := gb349) (o := .cells #[.int .i64 0, .int .i64 0, .string (⟨#[]⟩ : ByteArray)] 34 (0, 0)) (by (with_reducible repeat (first | apply bN | apply bD | apply bA)); exact BK349.out)) : gb349 ≠ gb350)); have n6_ := mk0 ((by rw [hg]; exact Nat.ne_of_gt (blk_lt (g := gb349) (o := .cells #[.int .i64 0, .int .i64 0, .string (⟨#[]⟩ : ByteArray)] 34 (0, 0)) (by (with_reducible repeat (first | apply bN | apply bD | apply bA)); exact BK349.out)) : gb350 ≠ gb349)); clear BK349; clear HB; have BK349 := n0_; have HB := n1_; have BK350 := n2_; have GW350 := n3_; have GE350 := n4_; have NB349_350 := n5_; have NB350_349 := n6_; clear n0_ n1_ n2_ n3_ n4_ n5_ n6_; clear hb hbox hg; have hnb8 := NB349_350.out; have hnc8 := NB350_349.out; have hcz9_0 : w7.cell? ⟨gb349, 0, none⟩ = some (.int .i64 0) := (bC BK349.out 0).trans rfl; have hcz9_1 : w7.cell? ⟨gb349, 1, none⟩ = some (.int .i64 0) := (bC BK349.out 1).trans rfl; have hcz9_2 : w7.cell? ⟨gb349, 2, none⟩ = some (.string (⟨#[]⟩ : ByteArray)) := (bC BK349.out 2).trans rfl; have hfz9_0 := bF BK349.out 0; have hfz9_1 := bF BK349.out 1; have hfz9_2 := bF BK349.out 2; have hcz10_0 : w7.cell? ⟨gb350, 0, none⟩ = some (.int .i64 0) := (bC BK350.out 0).trans rfl; have hcz10_1 : w7.cell? ⟨gb350, 1, none⟩ = some (.int .i64 0) := (bC BK350.out 1).trans rfl; have hcz10_2 : w7.cell? ⟨gb350, 2, none⟩ = some (.string (⟨#[]⟩ : ByteArray)) := (bC BK350.out 2).trans rfl; have hfz10_0 := bF BK350.out 0; have hfz10_1 := bF BK350.out 1; have hfz10_2 := bF BK350.out 2))
  (try simp only [Act.put, List.setIfInBounds_toArray, List.set_cons_zero, List.set_cons_succ])
  go_cut [50] (fun v50 wc => ∃ (kq : Nat) (x50_3 : Bool), v50 = .bool x50_3 ∧ Aside0 (laws_FnBits.j0 kq l0 x50_3 t343 t344 t345 t346 t347 t348 = some r) ∧ Aside0 (kq ≤ k) ∧ Aside0 (wc.heap[gb349]? = some (.cells #[.int .i64 t343, .int .i64 t344, .string t345] 34 (0, 0))) ∧ Aside0 (wc.heap[gb350]? = some (.cells #[.int .i64 t346, .int .i64 t347, .string t348] 34 (0, 0))) ∧ Aside0 (Below w.heap.size w wc))
  case first =>
    have H := HC4.out
    clear HC4
    replace H := Option.bind_eq_some_iff.mp H
    obtain ⟨t351, A110, H⟩ := H
    replace H : (if t351 = true then ((spec_ValidValue.f k t346 t347 t348).bind fun t352 => (if t352 = true then (if t343 = t346 then (laws_FnBits.j0 k l0 (decide (t343 < 3)) t343 t344 t345 t346 t347 t348) else (laws_FnBits.j0 k l0 true t343 t344 t345 t346 t347 t348)) else (laws_FnBits.j0 k l0 true t343 t344 t345 t346 t347 t348))) else (laws_FnBits.j0 k l0 true t343 t344 t345 t346 t347 t348)) = some r := H
    have A11 := mk0 A110
    clear A110
    by_cases c12 : t351 = true
    · subst c12
      have H1 : ((spec_ValidValue.f k t346 t347 t348).bind fun t352 => (if t352 = true then (if t343 = t346 then (laws_FnBits.j0 k l0 (decide (t343 < 3)) t343 t344 t345 t346 t347 t348) else (laws_FnBits.j0 k l0 true t343 t344 t345 t346 t347 t348)) else (laws_FnBits.j0 k l0 true t343 t344 t345 t346 t347 t348))) = some r := by rw [if_pos rfl] at H; exact H
      clear H
      have H := H1
      clear H1
      replace H := Option.bind_eq_some_iff.mp H
      obtain ⟨t352, A130, H⟩ := H
      replace H : (if t352 = true then (if t343 = t346 then (laws_FnBits.j0 k l0 (decide (t343 < 3)) t343 t344 t345 t346 t347 t348) else (laws_FnBits.j0 k l0 true t343 t344 t345 t346 t347 t348)) else (laws_FnBits.j0 k l0 true t343 t344 t345 t346 t347 t348)) = some r := H
      have A13 := mk0 A130
      clear A130
      by_cases c14 : t352 = true
      · subst c14
        have H1 : (if t343 = t346 then (laws_FnBits.j0 k l0 (decide (t343 < 3)) t343 t344 t345 t346 t347 t348) else (laws_FnBits.j0 k l0 true t343 t344 t345 t346 t347 t348)) = some r := by rw [if_pos rfl] at H; exact H
        clear H
        have H := H1
        clear H1
        by_cases c15 : t343 = t346
        · rw [if_pos c15] at H
          have c15b0 : (t343 == t346) = true := beq_iff_eq.mpr c15
          have c15b1 : (t343 != t346) = false := bne_eq_false_iff_eq.mpr c15
          clear c15
          (first | rw [c15b0] | (simp only [i64_w, i32_w]; rw [c15b0]) | rw [c15b4] | rw [c15b3] | skip)
          have H' := mk0 H
          clear H
          have hnb16 := NB349_350.out
          have hnc16 := NB350_349.out
          have hcz17_0 : w7.cell? ⟨gb349, 0, none⟩ = some (.int .i64 0) := (bC BK349.out 0).trans rfl
          have hcz17_1 : w7.cell? ⟨gb349, 1, none⟩ = some (.int .i64 0) := (bC BK349.out 1).trans rfl
          have hcz17_2 : w7.cell? ⟨gb349, 2, none⟩ = some (.string (⟨#[]⟩ : ByteArray)) := (bC BK349.out 2).trans rfl
          have hfz17_0 := bF BK349.out 0
          have hfz17_1 := bF BK349.out 1
          have hfz17_2 := bF BK349.out 2
          go_wp2_with (first | ((with_reducible refine gate_callee (f := 20) rfl ?_); refine goesL_ (some 32) rfl rfl Try.func20 (by kernel_rfl) rfl #[.agg #[.int .i64 t343, .int .i64 t344, .string t345]] rfl (by (try simp only [List.map_toArray, List.map_cons, List.map_nil]); first | done | rfl | (simp only [List.length_drop, List.length_take]; rfl)) ?_; (with_reducible refine (spec_ValidValue.calls k t343 t344 t345 true _ A11.out).mono ?_); rintro e w18 ⟨rfl, hb⟩; refine ⟨_, rfl, ?_⟩; have n0_ := mk0 (bB (g := gb349) (o := .cells #[.int .i64 t343, .int .i64 t344, .string t345] 34 (0, 0)) (by (with_reducible repeat (first | apply bN | apply bD | apply bA)); refine blk_far ?_ NB349_350.out _; (with_reducible repeat (first | apply bN | apply bD | apply bA)); refine blk_far ?_ NB349_350.out _; (with_reducible repeat (first | apply bN | apply bD | apply bA)); refine blk_far ?_ NB349_350.out _; (with_reducible repeat (first | apply bN | apply bD | apply bA)); refine blk_put (cs := #[.int .i64 t343, .int .i64 t344, .string (⟨#[]⟩ : ByteArray)]) ?_ 2 _ rfl; (with_reducible repeat (first | apply bN | apply bD | apply bA)); refine blk_put (cs := #[.int .i64 t343, .int .i64 0, .string (⟨#[]⟩ : ByteArray)]) ?_ 1 _ rfl; (with_reducible repeat (first | apply bN | apply bD | apply bA)); refine blk_put (cs := #[.int .i64 0, .int .i64 0, .string (⟨#[]⟩ : ByteArray)]) ?_ 0 _ rfl; (with_reducible repeat (first | apply bN | apply bD | apply bA)); exact BK349.out) hb); have n1_ := mk0 (bB (g := gb350) (o := .cells #[.int .i64 t346, .int .i64 t347, .string t348] 34 (0, 0)) (by (with_reducible repeat (first | apply bN | apply bD | apply bA)); refine blk_put (cs := #[.int .i64 t346, .int .i64 t347, .string (⟨#[]⟩ : ByteArray)]) ?_ 2 _ rfl; (with_reducible repeat (first | apply bN | apply bD | apply bA)); refine blk_put (cs := #[.int .i64 t346, .int .i64 0, .string (⟨#[]⟩ : ByteArray)]) ?_ 1 _ rfl; (with_reducible repeat (first | apply bN | apply bD | apply bA)); refine blk_put (cs := #[.int .i64 0, .int .i64 0, .string (⟨#[]⟩ : ByteArray)]) ?_ 0 _ rfl; (with_reducible repeat (first | apply bN | apply bD | apply bA)); refine blk_far ?_ NB350_349.out _; (with_reducible repeat (first | apply bN | apply bD | apply bA)); refine blk_far ?_ NB350_349.out _; (with_reducible repeat (first | apply bN | apply bD | apply bA)); refine blk_far ?_ NB350_349.out _; (with_reducible repeat (first | apply bN | apply bD | apply bA)); exact BK350.out) hb); have n2_ := mk0 (below_step (by repeat (first | (with_reducible first | exact HB.out | apply wA | apply wN | apply wD | refine wS ?_ GE349.out | refine wS ?_ GE350.out) | exact HB.out)) hb); clear BK349; clear BK350; clear HB; have BK349 := n0_; have BK350 := n1_; have HB := n2_; clear n0_ n1_ n2_; (try clear hb); (try clear hb2); (try clear hk); (try clear hi); have hcz19_0 : w18.cell? ⟨gb350, 0, none⟩ = some (.int .i64 t346) := (bC BK350.out 0).trans rfl; have hcz19_1 : w18.cell? ⟨gb350, 1, none⟩ = some (.int .i64 t347) := (bC BK350.out 1).trans rfl; have hcz19_2 : w18.cell? ⟨gb350, 2, none⟩ = some (.string t348) := (bC BK350.out 2).trans rfl; have hfz19_0 := bF BK350.out 0; have hfz19_1 := bF BK350.out 1; have hfz19_2 := bF BK350.out 2) | (go_at_call 20; (with_reducible refine (spec_ValidValue.calls k t346 t347 t348 true _ A13.out).mono ?_); rintro e w20 ⟨rfl, hb⟩; have n0_ := mk0 (bB (g := gb349) (o := .cells #[.int .i64 t343, .int .i64 t344, .string t345] 34 (0, 0)) (by (with_reducible repeat (first | apply bN | apply bD | apply bA)); exact BK349.out) hb); have n1_ := mk0 (bB (g := gb350) (o := .cells #[.int .i64 t346, .int .i64 t347, .string t348] 34 (0, 0)) (by (with_reducible repeat (first | apply bN | apply bD | apply bA)); exact BK350.out) hb); have n2_ := mk0 (below_step (by repeat (first | (with_reducible first | exact HB.out | apply wA | apply wN | apply wD | refine wS ?_ GE349.out | refine wS ?_ GE350.out) | exact HB.out)) hb); clear BK349; clear BK350; clear HB; have BK349 := n0_; have BK350 := n1_; have HB := n2_; clear n0_ n1_ n2_; (try clear hb); (try clear hb2); (try clear hk); (try clear hi); have hcz21_0 : w20.cell? ⟨gb349, 0, none⟩ = some (.int .i64 t343) := (bC BK349.out 0).trans rfl; have hcz21_1 : w20.cell? ⟨gb349, 1, none⟩ = some (.int .i64 t344) := (bC BK349.out 1).trans rfl; have hcz21_2 : w20.cell? ⟨gb349, 2, none⟩ = some (.string t345) := (bC BK349.out 2).trans rfl; have hfz21_0 := bF BK349.out 0; have hfz21_1 := bF BK349.out 1; have hfz21_2 := bF BK349.out 2; have hcz22_0 : w20.cell? ⟨gb350, 0, none⟩ = some (.int .i64 t346) := (bC BK350.out 0).trans rfl; have hcz22_1 : w20.cell? ⟨gb350, 1, none⟩ = some (.int .i64 t347) := (bC BK350.out 1).trans rfl; have hcz22_2 : w20.cell? ⟨gb350, 2, none⟩ = some (.string t348) := (bC BK350.out 2).trans rfl; have hfz22_0 := bF BK350.out 0; have hfz22_1 := bF BK350.out 1; have hfz22_2 := bF BK350.out 2))
          go_meet
          case rel => exact ⟨_, (decide (t343 < 3)), (by first | rfl | (simp; done) | (simp [*]; done)), H', ⟨by first | omega | exact Nat.le_refl _⟩, ⟨by (with_reducible repeat (first | apply bN | apply bD | apply bA)); exact BK349.out⟩, ⟨by (with_reducible repeat (first | apply bN | apply bD | apply bA)); exact BK350.out⟩, ⟨by repeat (first | (with_reducible first | exact HB.out | apply wA | apply wN | apply wD | refine wS ?_ GE349.out | refine wS ?_ GE350.out) | exact HB.out)⟩⟩
        rw [if_neg c15] at H
        have c15b0 : (t343 == t346) = false := beq_eq_false_iff_ne.mpr c15
        have c15b1 : (t343 != t346) = true := bne_iff_ne.mpr c15
        (first | rw [c15b0] | (simp only [i64_w, i32_w]; rw [c15b0]) | rw [c15b4] | rw [c15b3] | skip)
        have H' := mk0 H
        clear H
        have hnb23 := NB349_350.out
        have hnc23 := NB350_349.out
        have hcz24_0 : w7.cell? ⟨gb349, 0, none⟩ = some (.int .i64 0) := (bC BK349.out 0).trans rfl
        have hcz24_1 : w7.cell? ⟨gb349, 1, none⟩ = some (.int .i64 0) := (bC BK349.out 1).trans rfl
        have hcz24_2 : w7.cell? ⟨gb349, 2, none⟩ = some (.string (⟨#[]⟩ : ByteArray)) := (bC BK349.out 2).trans rfl
        have hfz24_0 := bF BK349.out 0
        have hfz24_1 := bF BK349.out 1
        have hfz24_2 := bF BK349.out 2
        go_wp2_with (first | ((with_reducible refine gate_callee (f := 20) rfl ?_); refine goesL_ (some 32) rfl rfl Try.func20 (by kernel_rfl) rfl #[.agg #[.int .i64 t343, .int .i64 t344, .string t345]] rfl (by (try simp only [List.map_toArray, List.map_cons, List.map_nil]); first | done | rfl | (simp only [List.length_drop, List.length_take]; rfl)) ?_; (with_reducible refine (spec_ValidValue.calls k t343 t344 t345 true _ A11.out).mono ?_); rintro e w25 ⟨rfl, hb⟩; refine ⟨_, rfl, ?_⟩; have n0_ := mk0 (bB (g := gb349) (o := .cells #[.int .i64 t343, .int .i64 t344, .string t345] 34 (0, 0)) (by (with_reducible repeat (first | apply bN | apply bD | apply bA)); refine blk_far ?_ NB349_350.out _; (with_reducible repeat (first | apply bN | apply bD | apply bA)); refine blk_far ?_ NB349_350.out _; (with_reducible repeat (first | apply bN | apply bD | apply bA)); refine blk_far ?_ NB349_350.out _; (with_reducible repeat (first | apply bN | apply bD | apply bA)); refine blk_put (cs := #[.int .i64 t343, .int .i64 t344, .string (⟨#[]⟩ : ByteArray)]) ?_ 2 _ rfl; (with_reducible repeat (first | apply bN | apply bD | apply bA)); refine blk_put (cs := #[.int .i64 t343, .int .i64 0, .string (⟨#[]⟩ : ByteArray)]) ?_ 1 _ rfl; (with_reducible repeat (first | apply bN | apply bD | apply bA)); refine blk_put (cs := #[.int .i64 0, .int .i64 0, .string (⟨#[]⟩ : ByteArray)]) ?_ 0 _ rfl; (with_reducible repeat (first | apply bN | apply bD | apply bA)); exact BK349.out) hb); have n1_ := mk0 (bB (g := gb350) (o := .cells #[.int .i64 t346, .int .i64 t347, .string t348] 34 (0, 0)) (by (with_reducible repeat (first | apply bN | apply bD | apply bA)); refine blk_put (cs := #[.int .i64 t346, .int .i64 t347, .string (⟨#[]⟩ : ByteArray)]) ?_ 2 _ rfl; (with_reducible repeat (first | apply bN | apply bD | apply bA)); refine blk_put (cs := #[.int .i64 t346, .int .i64 0, .string (⟨#[]⟩ : ByteArray)]) ?_ 1 _ rfl; (with_reducible repeat (first | apply bN | apply bD | apply bA)); refine blk_put (cs := #[.int .i64 0, .int .i64 0, .string (⟨#[]⟩ : ByteArray)]) ?_ 0 _ rfl; (with_reducible repeat (first | apply bN | apply bD | apply bA)); refine blk_far ?_ NB350_349.out _; (with_reducible repeat (first | apply bN | apply bD | apply bA)); refine blk_far ?_ NB350_349.out _; (with_reducible repeat (first | apply bN | apply bD | apply bA)); refine blk_far ?_ NB350_349.out _; (with_reducible repeat (first | apply bN | apply bD | apply bA)); exact BK350.out) hb); have n2_ := mk0 (below_step (by repeat (first | (with_reducible first | exact HB.out | apply wA | apply wN | apply wD | refine wS ?_ GE349.out | refine wS ?_ GE350.out) | exact HB.out)) hb); clear BK349; clear BK350; clear HB; have BK349 := n0_; have BK350 := n1_; have HB := n2_; clear n0_ n1_ n2_; (try clear hb); (try clear hb2); (try clear hk); (try clear hi); have hcz26_0 : w25.cell? ⟨gb350, 0, none⟩ = some (.int .i64 t346) := (bC BK350.out 0).trans rfl; have hcz26_1 : w25.cell? ⟨gb350, 1, none⟩ = some (.int .i64 t347) := (bC BK350.out 1).trans rfl; have hcz26_2 : w25.cell? ⟨gb350, 2, none⟩ = some (.string t348) := (bC BK350.out 2).trans rfl; have hfz26_0 := bF BK350.out 0; have hfz26_1 := bF BK350.out 1; have hfz26_2 := bF BK350.out 2) | (go_at_call 20; (with_reducible refine (spec_ValidValue.calls k t346 t347 t348 true _ A13.out).mono ?_); rintro e w27 ⟨rfl, hb⟩; have n0_ := mk0 (bB (g := gb349) (o := .cells #[.int .i64 t343, .int .i64 t344, .string t345] 34 (0, 0)) (by (with_reducible repeat (first | apply bN | apply bD | apply bA)); exact BK349.out) hb); have n1_ := mk0 (bB (g := gb350) (o := .cells #[.int .i64 t346, .int .i64 t347, .string t348] 34 (0, 0)) (by (with_reducible repeat (first | apply bN | apply bD | apply bA)); exact BK350.out) hb); have n2_ := mk0 (below_step (by repeat (first | (with_reducible first | exact HB.out | apply wA | apply wN | apply wD | refine wS ?_ GE349.out | refine wS ?_ GE350.out) | exact HB.out)) hb); clear BK349; clear BK350; clear HB; have BK349 := n0_; have BK350 := n1_; have HB := n2_; clear n0_ n1_ n2_; (try clear hb); (try clear hb2); (try clear hk); (try clear hi); have hcz28_0 : w27.cell? ⟨gb349, 0, none⟩ = some (.int .i64 t343) := (bC BK349.out 0).trans rfl; have hcz28_1 : w27.cell? ⟨gb349, 1, none⟩ = some (.int .i64 t344) := (bC BK349.out 1).trans rfl; have hcz28_2 : w27.cell? ⟨gb349, 2, none⟩ = some (.string t345) := (bC BK349.out 2).trans rfl; have hfz28_0 := bF BK349.out 0; have hfz28_1 := bF BK349.out 1; have hfz28_2 := bF BK349.out 2; have hcz29_0 : w27.cell? ⟨gb350, 0, none⟩ = some (.int .i64 t346) := (bC BK350.out 0).trans rfl; have hcz29_1 : w27.cell? ⟨gb350, 1, none⟩ = some (.int .i64 t347) := (bC BK350.out 1).trans rfl; have hcz29_2 : w27.cell? ⟨gb350, 2, none⟩ = some (.string t348) := (bC BK350.out 2).trans rfl; have hfz29_0 := bF BK350.out 0; have hfz29_1 := bF BK350.out 1; have hfz29_2 := bF BK350.out 2))
        go_meet
        case rel => exact ⟨_, (true), (by first | rfl | (simp; done) | (simp [*]; done)), H', ⟨by first | omega | exact Nat.le_refl _⟩, ⟨by (with_reducible repeat (first | apply bN | apply bD | apply bA)); exact BK349.out⟩, ⟨by (with_reducible repeat (first | apply bN | apply bD | apply bA)); exact BK350.out⟩, ⟨by repeat (first | (with_reducible first | exact HB.out | apply wA | apply wN | apply wD | refine wS ?_ GE349.out | refine wS ?_ GE350.out) | exact HB.out)⟩⟩
      replace c14 := Bool.eq_false_iff.mpr c14
      subst c14
      have H1 : (laws_FnBits.j0 k l0 true t343 t344 t345 t346 t347 t348) = some r := by rw [if_neg (show ¬ (false = true) by decide)] at H; exact H
      clear H
      have H := H1
      clear H1
      have H' := mk0 H
      clear H
      have hnb30 := NB349_350.out
      have hnc30 := NB350_349.out
      have hcz31_0 : w7.cell? ⟨gb349, 0, none⟩ = some (.int .i64 0) := (bC BK349.out 0).trans rfl
      have hcz31_1 : w7.cell? ⟨gb349, 1, none⟩ = some (.int .i64 0) := (bC BK349.out 1).trans rfl
      have hcz31_2 : w7.cell? ⟨gb349, 2, none⟩ = some (.string (⟨#[]⟩ : ByteArray)) := (bC BK349.out 2).trans rfl
      have hfz31_0 := bF BK349.out 0
      have hfz31_1 := bF BK349.out 1
      have hfz31_2 := bF BK349.out 2
      go_wp2_with (first | ((with_reducible refine gate_callee (f := 20) rfl ?_); refine goesL_ (some 32) rfl rfl Try.func20 (by kernel_rfl) rfl #[.agg #[.int .i64 t343, .int .i64 t344, .string t345]] rfl (by (try simp only [List.map_toArray, List.map_cons, List.map_nil]); first | done | rfl | (simp only [List.length_drop, List.length_take]; rfl)) ?_; (with_reducible refine (spec_ValidValue.calls k t343 t344 t345 true _ A11.out).mono ?_); rintro e w32 ⟨rfl, hb⟩; refine ⟨_, rfl, ?_⟩; have n0_ := mk0 (bB (g := gb349) (o := .cells #[.int .i64 t343, .int .i64 t344, .string t345] 34 (0, 0)) (by (with_reducible repeat (first | apply bN | apply bD | apply bA)); refine blk_far ?_ NB349_350.out _; (with_reducible repeat (first | apply bN | apply bD | apply bA)); refine blk_far ?_ NB349_350.out _; (with_reducible repeat (first | apply bN | apply bD | apply bA)); refine blk_far ?_ NB349_350.out _; (with_reducible repeat (first | apply bN | apply bD | apply bA)); refine blk_put (cs := #[.int .i64 t343, .int .i64 t344, .string (⟨#[]⟩ : ByteArray)]) ?_ 2 _ rfl; (with_reducible repeat (first | apply bN | apply bD | apply bA)); refine blk_put (cs := #[.int .i64 t343, .int .i64 0, .string (⟨#[]⟩ : ByteArray)]) ?_ 1 _ rfl; (with_reducible repeat (first | apply bN | apply bD | apply bA)); refine blk_put (cs := #[.int .i64 0, .int .i64 0, .string (⟨#[]⟩ : ByteArray)]) ?_ 0 _ rfl; (with_reducible repeat (first | apply bN | apply bD | apply bA)); exact BK349.out) hb); have n1_ := mk0 (bB (g := gb350) (o := .cells #[.int .i64 t346, .int .i64 t347, .string t348] 34 (0, 0)) (by (with_reducible repeat (first | apply bN | apply bD | apply bA)); refine blk_put (cs := #[.int .i64 t346, .int .i64 t347, .string (⟨#[]⟩ : ByteArray)]) ?_ 2 _ rfl; (with_reducible repeat (first | apply bN | apply bD | apply bA)); refine blk_put (cs := #[.int .i64 t346, .int .i64 0, .string (⟨#[]⟩ : ByteArray)]) ?_ 1 _ rfl; (with_reducible repeat (first | apply bN | apply bD | apply bA)); refine blk_put (cs := #[.int .i64 0, .int .i64 0, .string (⟨#[]⟩ : ByteArray)]) ?_ 0 _ rfl; (with_reducible repeat (first | apply bN | apply bD | apply bA)); refine blk_far ?_ NB350_349.out _; (with_reducible repeat (first | apply bN | apply bD | apply bA)); refine blk_far ?_ NB350_349.out _; (with_reducible repeat (first | apply bN | apply bD | apply bA)); refine blk_far ?_ NB350_349.out _; (with_reducible repeat (first | apply bN | apply bD | apply bA)); exact BK350.out) hb); have n2_ := mk0 (below_step (by repeat (first | (with_reducible first | exact HB.out | apply wA | apply wN | apply wD | refine wS ?_ GE349.out | refine wS ?_ GE350.out) | exact HB.out)) hb); clear BK349; clear BK350; clear HB; have BK349 := n0_; have BK350 := n1_; have HB := n2_; clear n0_ n1_ n2_; (try clear hb); (try clear hb2); (try clear hk); (try clear hi); have hcz33_0 : w32.cell? ⟨gb350, 0, none⟩ = some (.int .i64 t346) := (bC BK350.out 0).trans rfl; have hcz33_1 : w32.cell? ⟨gb350, 1, none⟩ = some (.int .i64 t347) := (bC BK350.out 1).trans rfl; have hcz33_2 : w32.cell? ⟨gb350, 2, none⟩ = some (.string t348) := (bC BK350.out 2).trans rfl; have hfz33_0 := bF BK350.out 0; have hfz33_1 := bF BK350.out 1; have hfz33_2 := bF BK350.out 2) | (go_at_call 20; (with_reducible refine (spec_ValidValue.calls k t346 t347 t348 false _ A13.out).mono ?_); rintro e w34 ⟨rfl, hb⟩; have n0_ := mk0 (bB (g := gb349) (o := .cells #[.int .i64 t343, .int .i64 t344, .string t345] 34 (0, 0)) (by (with_reducible repeat (first | apply bN | apply bD | apply bA)); exact BK349.out) hb); have n1_ := mk0 (bB (g := gb350) (o := .cells #[.int .i64 t346, .int .i64 t347, .string t348] 34 (0, 0)) (by (with_reducible repeat (first | apply bN | apply bD | apply bA)); exact BK350.out) hb); have n2_ := mk0 (below_step (by repeat (first | (with_reducible first | exact HB.out | apply wA | apply wN | apply wD | refine wS ?_ GE349.out | refine wS ?_ GE350.out) | exact HB.out)) hb); clear BK349; clear BK350; clear HB; have BK349 := n0_; have BK350 := n1_; have HB := n2_; clear n0_ n1_ n2_; (try clear hb); (try clear hb2); (try clear hk); (try clear hi)))
      go_meet
      case rel => exact ⟨_, (true), (by first | rfl | (simp; done) | (simp [*]; done)), H', ⟨by first | omega | exact Nat.le_refl _⟩, ⟨by (with_reducible repeat (first | apply bN | apply bD | apply bA)); exact BK349.out⟩, ⟨by (with_reducible repeat (first | apply bN | apply bD | apply bA)); exact BK350.out⟩, ⟨by repeat (first | (with_reducible first | exact HB.out | apply wA | apply wN | apply wD | refine wS ?_ GE349.out | refine wS ?_ GE350.out) | exact HB.out)⟩⟩
    replace c12 := Bool.eq_false_iff.mpr c12
    subst c12
    have H1 : (laws_FnBits.j0 k l0 true t343 t344 t345 t346 t347 t348) = some r := by rw [if_neg (show ¬ (false = true) by decide)] at H; exact H
    clear H
    have H := H1
    clear H1
    have H' := mk0 H
    clear H
    have hnb35 := NB349_350.out
    have hnc35 := NB350_349.out
    have hcz36_0 : w7.cell? ⟨gb349, 0, none⟩ = some (.int .i64 0) := (bC BK349.out 0).trans rfl
    have hcz36_1 : w7.cell? ⟨gb349, 1, none⟩ = some (.int .i64 0) := (bC BK349.out 1).trans rfl
    have hcz36_2 : w7.cell? ⟨gb349, 2, none⟩ = some (.string (⟨#[]⟩ : ByteArray)) := (bC BK349.out 2).trans rfl
    have hfz36_0 := bF BK349.out 0
    have hfz36_1 := bF BK349.out 1
    have hfz36_2 := bF BK349.out 2
    go_wp2_with (first | ((with_reducible refine gate_callee (f := 20) rfl ?_); refine goesL_ (some 32) rfl rfl Try.func20 (by kernel_rfl) rfl #[.agg #[.int .i64 t343, .int .i64 t344, .string t345]] rfl (by (try simp only [List.map_toArray, List.map_cons, List.map_nil]); first | done | rfl | (simp only [List.length_drop, List.length_take]; rfl)) ?_; (with_reducible refine (spec_ValidValue.calls k t343 t344 t345 false _ A11.out).mono ?_); rintro e w37 ⟨rfl, hb⟩; refine ⟨_, rfl, ?_⟩; have n0_ := mk0 (bB (g := gb349) (o := .cells #[.int .i64 t343, .int .i64 t344, .string t345] 34 (0, 0)) (by (with_reducible repeat (first | apply bN | apply bD | apply bA)); refine blk_far ?_ NB349_350.out _; (with_reducible repeat (first | apply bN | apply bD | apply bA)); refine blk_far ?_ NB349_350.out _; (with_reducible repeat (first | apply bN | apply bD | apply bA)); refine blk_far ?_ NB349_350.out _; (with_reducible repeat (first | apply bN | apply bD | apply bA)); refine blk_put (cs := #[.int .i64 t343, .int .i64 t344, .string (⟨#[]⟩ : ByteArray)]) ?_ 2 _ rfl; (with_reducible repeat (first | apply bN | apply bD | apply bA)); refine blk_put (cs := #[.int .i64 t343, .int .i64 0, .string (⟨#[]⟩ : ByteArray)]) ?_ 1 _ rfl; (with_reducible repeat (first | apply bN | apply bD | apply bA)); refine blk_put (cs := #[.int .i64 0, .int .i64 0, .string (⟨#[]⟩ : ByteArray)]) ?_ 0 _ rfl; (with_reducible repeat (first | apply bN | apply bD | apply bA)); exact BK349.out) hb); have n1_ := mk0 (bB (g := gb350) (o := .cells #[.int .i64 t346, .int .i64 t347, .string t348] 34 (0, 0)) (by (with_reducible repeat (first | apply bN | apply bD | apply bA)); refine blk_put (cs := #[.int .i64 t346, .int .i64 t347, .string (⟨#[]⟩ : ByteArray)]) ?_ 2 _ rfl; (with_reducible repeat (first | apply bN | apply bD | apply bA)); refine blk_put (cs := #[.int .i64 t346, .int .i64 0, .string (⟨#[]⟩ : ByteArray)]) ?_ 1 _ rfl; (with_reducible repeat (first | apply bN | apply bD | apply bA)); refine blk_put (cs := #[.int .i64 0, .int .i64 0, .string (⟨#[]⟩ : ByteArray)]) ?_ 0 _ rfl; (with_reducible repeat (first | apply bN | apply bD | apply bA)); refine blk_far ?_ NB350_349.out _; (with_reducible repeat (first | apply bN | apply bD | apply bA)); refine blk_far ?_ NB350_349.out _; (with_reducible repeat (first | apply bN | apply bD | apply bA)); refine blk_far ?_ NB350_349.out _; (with_reducible repeat (first | apply bN | apply bD | apply bA)); exact BK350.out) hb); have n2_ := mk0 (below_step (by repeat (first | (with_reducible first | exact HB.out | apply wA | apply wN | apply wD | refine wS ?_ GE349.out | refine wS ?_ GE350.out) | exact HB.out)) hb); clear BK349; clear BK350; clear HB; have BK349 := n0_; have BK350 := n1_; have HB := n2_; clear n0_ n1_ n2_; (try clear hb); (try clear hb2); (try clear hk); (try clear hi)))
    go_meet
    case rel => exact ⟨_, (true), (by first | rfl | (simp; done) | (simp [*]; done)), H', ⟨by first | omega | exact Nat.le_refl _⟩, ⟨by (with_reducible repeat (first | apply bN | apply bD | apply bA)); exact BK349.out⟩, ⟨by (with_reducible repeat (first | apply bN | apply bD | apply bA)); exact BK350.out⟩, ⟨by repeat (first | (with_reducible first | exact HB.out | apply wA | apply wN | apply wD | refine wS ?_ GE349.out | refine wS ?_ GE350.out) | exact HB.out)⟩⟩
  clear HC4
  try clear c1
  try clear c2
  try clear c2b0
  try clear c2b1
  try clear p2
  try clear c3
  try clear c5
  try clear c8
  try clear c12
  try clear c13
  try clear c14
  try clear c15
  try clear c15b0
  try clear c15b1
  try clear c16
  try clear c20
  try clear c23
  try clear c30
  try clear c35
  try clear hcz10_0
  try clear hcz10_1
  try clear hcz10_2
  try clear hcz17_0
  try clear hcz17_1
  try clear hcz17_2
  try clear hcz19_0
  try clear hcz19_1
  try clear hcz19_2
  try clear hcz21_0
  try clear hcz21_1
  try clear hcz21_2
  try clear hcz22_0
  try clear hcz22_1
  try clear hcz22_2
  try clear hcz24_0
  try clear hcz24_1
  try clear hcz24_2
  try clear hcz26_0
  try clear hcz26_1
  try clear hcz26_2
  try clear hcz28_0
  try clear hcz28_1
  try clear hcz28_2
  try clear hcz29_0
  try clear hcz29_1
  try clear hcz29_2
  try clear hcz31_0
  try clear hcz31_1
  try clear hcz31_2
  try clear hcz33_0
  try clear hcz33_1
  try clear hcz33_2
  try clear hcz36_0
  try clear hcz36_1
  try clear hcz36_2
  try clear hcz9_0
  try clear hcz9_1
  try clear hcz9_2
  try clear hfz10_0
  try clear hfz10_1
  try clear hfz10_2
  try clear hfz17_0
  try clear hfz17_1
  try clear hfz17_2
  try clear hfz19_0
  try clear hfz19_1
  try clear hfz19_2
  try clear hfz21_0
  try clear hfz21_1
  try clear hfz21_2
  try clear hfz22_0
  try clear hfz22_1
  try clear hfz22_2
  try clear hfz24_0
  try clear hfz24_1
  try clear hfz24_2
  try clear hfz26_0
  try clear hfz26_1
  try clear hfz26_2
  try clear hfz28_0
  try clear hfz28_1
  try clear hfz28_2
  try clear hfz29_0
  try clear hfz29_1
  try clear hfz29_2
  try clear hfz31_0
  try clear hfz31_1
  try clear hfz31_2
  try clear hfz33_0
  try clear hfz33_1
  try clear hfz33_2
  try clear hfz36_0
  try clear hfz36_1
  try clear hfz36_2
  try clear hfz9_0
  try clear hfz9_1
  try clear hfz9_2
  obtain ⟨kq, x50_3, rfl, HA, HJ3, BK349, BK350, HB⟩ := hcut
  cases kq with
  | zero => exact absurd HA.out (by simp [laws_FnBits.j0])
  | succ kj3 =>
  have H := HA.out
  clear HA
  simp only [laws_FnBits.j0] at H
  by_cases c38 : x50_3 = true
  · subst c38
    have H1 : ((impl_ValidValue.f kj3 t343 t344 t345).bind fun t353 => ((spec_ValidValue.f kj3 t343 t344 t345).bind fun t354 => (if (t353 == t354) = true then ((impl_ValidValue.f kj3 t346 t347 t348).bind fun t355 => ((spec_ValidValue.f kj3 t346 t347 t348).bind fun t356 => (some (t355 == t356)))) else (some false)))) = some r := by rw [if_pos rfl] at H; exact H
    clear H
    have H := H1
    clear H1
    replace H := Option.bind_eq_some_iff.mp H
    obtain ⟨t353, A390, H⟩ := H
    replace H : ((spec_ValidValue.f kj3 t343 t344 t345).bind fun t354 => (if (t353 == t354) = true then ((impl_ValidValue.f kj3 t346 t347 t348).bind fun t355 => ((spec_ValidValue.f kj3 t346 t347 t348).bind fun t356 => (some (t355 == t356)))) else (some false))) = some r := H
    have A39 := mk0 A390
    clear A390
    replace H := Option.bind_eq_some_iff.mp H
    obtain ⟨t354, A400, H⟩ := H
    replace H : (if (t353 == t354) = true then ((impl_ValidValue.f kj3 t346 t347 t348).bind fun t355 => ((spec_ValidValue.f kj3 t346 t347 t348).bind fun t356 => (some (t355 == t356)))) else (some false)) = some r := H
    have A40 := mk0 A400
    clear A400
    by_cases c41 : (t353 == t354) = true
    · rw [if_pos c41] at H
      have c41b0 : (t353 == t354) = true := c41
      (try (have c41b1 : decide (t353 = t354) = true := by simpa using c41))
      (try (have c41b2 : (t353 == t354) = true := by simpa using c41))
      (try (have c41b3 : (!(t353 == t354)) = false := by (have h_ := c41; revert h_; cases t353 <;> cases t354 <;> simp)))
      clear c41
      replace H := Option.bind_eq_some_iff.mp H
      obtain ⟨t355, A420, H⟩ := H
      replace H : ((spec_ValidValue.f kj3 t346 t347 t348).bind fun t356 => (some (t355 == t356))) = some r := H
      have A42 := mk0 A420
      clear A420
      replace H := Option.bind_eq_some_iff.mp H
      obtain ⟨t356, A430, H⟩ := H
      replace H : (some (t355 == t356)) = some r := H
      have A43 := mk0 A430
      clear A430
      obtain rfl := Option.some.inj H
      try go_wp2
      have n0_ := mk0 (bD BK349.out)
      have n1_ := mk0 (bD BK350.out)
      have n2_ := mk0 (wD HB.out)
      clear BK349
      clear BK350
      clear HB
      have BK349 := n0_
      have BK350 := n1_
      have HB := n2_
      clear n0_ n1_ n2_
      refine start_ (n := 13) (S := fun w' => w'.cell? ⟨gb349, 0, none⟩ = some (.int .i64 t343) ∧ w'.cell? ⟨gb349, 1, none⟩ = some (.int .i64 t344) ∧ w'.cell? ⟨gb349, 2, none⟩ = some (.string t345) ∧ w'.cell? ⟨gb350, 0, none⟩ = some (.int .i64 t346) ∧ w'.cell? ⟨gb350, 1, none⟩ = some (.int .i64 t347) ∧ w'.cell? ⟨gb350, 2, none⟩ = some (.string t348)) (ds := []) #[false, false, false, false, false, false, false, false, false, false, false, false, false] (by kernel_rfl) rfl rfl ⟨(bC BK349.out 0).trans rfl, (bC BK349.out 1).trans rfl, (bC BK349.out 2).trans rfl, (bC BK350.out 0).trans rfl, (bC BK350.out 1).trans rfl, (bC BK350.out 2).trans rfl⟩ (fun hHeld => ?_); refine with_tabW laws_FnBits.tab5 laws_FnBits.bits5 (fun HT_ HW_ => ?_)
      generalize wc.drew = w44 at BK349 BK350 HB hHeld ⊢
      refine take_ (i := 0) (N := some 51) (v := ?_) (a' := ?_) #[true, false, false, false, false, false, false, false, false, false, false, false, false] rfl rfl (take_ofW HT_.out HW_.out (by kernel_rfl)) (fun _ _ _ h => h) (Or.inl ⟨by rfl, ?_⟩) hHeld ?_ ?_
      rotate_left
      · rintro w' ⟨s0, s1, s2, s3, s4, s5⟩
        go_simp
        with_reducible rfl
      rotate_left
      · simp only [Act.put, List.setIfInBounds_toArray, List.set_cons_zero, List.set_cons_succ, i64_w, i32_w]
        rfl
      refine take_ (i := 2) (N := some 53) (v := ?_) (a' := ?_) #[true, false, true, false, false, false, false, false, false, false, false, false, false] rfl rfl (take_ofW HT_.out HW_.out (by kernel_rfl)) (fun _ _ _ h => h) (Or.inl ⟨by rfl, ?_⟩) hHeld ?_ ?_
      rotate_left
      · rintro w' ⟨s0, s1, s2, s3, s4, s5⟩
        go_simp
        with_reducible rfl
      rotate_left
      · simp only [Act.put, List.setIfInBounds_toArray, List.set_cons_zero, List.set_cons_succ, i64_w, i32_w]
        rfl
      refine one_ (i := 1) (N := some 52) #[true, true, true, false, false, false, false, false, false, false, false, false, false] rfl rfl (one_of HT_.out (by kernel_rfl)) (by decide) (fun K hK => ?_)
      refine goes_ Try.func22 (by kernel_rfl) rfl #[.agg #[.int .i64 t343, .int .i64 t344, .string t345]] (by rfl) rfl rfl (by (try simp only [List.map_toArray, List.map_cons, List.map_nil]); first | done | rfl | (simp only [List.length_drop, List.length_take]; rfl)) ?_
      with_reducible refine (impl_ValidValue.calls kj3 t343 t344 t345 t353 _ A39.out).mono ?_
      rintro e w45 ⟨rfl, hb⟩
      refine ⟨_, rfl, ?_⟩
      have n0_ := mk0 (bB (g := gb349) (o := .cells #[.int .i64 t343, .int .i64 t344, .string t345] 34 (0, 0)) (by (with_reducible repeat (first | apply bN | apply bD | apply bA)); exact BK349.out) hb)
      have n1_ := mk0 (bB (g := gb350) (o := .cells #[.int .i64 t346, .int .i64 t347, .string t348] 34 (0, 0)) (by (with_reducible repeat (first | apply bN | apply bD | apply bA)); exact BK350.out) hb)
      have n2_ := mk0 (below_step (by repeat (first | (with_reducible first | exact HB.out | apply wA | apply wN | apply wD | refine wS ?_ GE349.out | refine wS ?_ GE350.out) | exact HB.out)) hb)
      clear BK349
      clear BK350
      clear HB
      have BK349 := n0_
      have BK350 := n1_
      have HB := n2_
      clear n0_ n1_ n2_
      (try clear hb)
      (try clear hb2)
      (try clear hk)
      (try clear hi)
      refine hK.out _ _ ⟨(bC BK349.out 0).trans rfl, (bC BK349.out 1).trans rfl, (bC BK349.out 2).trans rfl, (bC BK350.out 0).trans rfl, (bC BK350.out 1).trans rfl, (bC BK350.out 2).trans rfl⟩ (fun hHeld => ?_)
      clear hK K
      refine norm_ (a' := ?_) ?_ ?_
      rotate_left
      · show Act.put _ (some 52) _ = _
        simp only [Act.put, List.setIfInBounds_toArray, List.set_cons_zero, List.set_cons_succ, i64_w, i32_w]
        rfl
      refine one_ (i := 3) (N := some 54) #[true, true, true, true, false, false, false, false, false, false, false, false, false] rfl rfl (one_of HT_.out (by kernel_rfl)) (by decide) (fun K hK => ?_)
      refine goes_ Try.func20 (by kernel_rfl) rfl #[.agg #[.int .i64 t343, .int .i64 t344, .string t345]] (by rfl) rfl rfl (by (try simp only [List.map_toArray, List.map_cons, List.map_nil]); first | done | rfl | (simp only [List.length_drop, List.length_take]; rfl)) ?_
      with_reducible refine (spec_ValidValue.calls kj3 t343 t344 t345 t354 _ A40.out).mono ?_
      rintro e w46 ⟨rfl, hb⟩
      refine ⟨_, rfl, ?_⟩
      have n0_ := mk0 (bB (g := gb349) (o := .cells #[.int .i64 t343, .int .i64 t344, .string t345] 34 (0, 0)) (by (with_reducible repeat (first | apply bN | apply bD | apply bA)); exact BK349.out) hb)
      have n1_ := mk0 (bB (g := gb350) (o := .cells #[.int .i64 t346, .int .i64 t347, .string t348] 34 (0, 0)) (by (with_reducible repeat (first | apply bN | apply bD | apply bA)); exact BK350.out) hb)
      have n2_ := mk0 (below_step (by repeat (first | (with_reducible first | exact HB.out | apply wA | apply wN | apply wD | refine wS ?_ GE349.out | refine wS ?_ GE350.out) | exact HB.out)) hb)
      clear BK349
      clear BK350
      clear HB
      have BK349 := n0_
      have BK350 := n1_
      have HB := n2_
      clear n0_ n1_ n2_
      (try clear hb)
      (try clear hb2)
      (try clear hk)
      (try clear hi)
      refine hK.out _ _ ⟨(bC BK349.out 0).trans rfl, (bC BK349.out 1).trans rfl, (bC BK349.out 2).trans rfl, (bC BK350.out 0).trans rfl, (bC BK350.out 1).trans rfl, (bC BK350.out 2).trans rfl⟩ (fun hHeld => ?_)
      clear hK K
      refine norm_ (a' := ?_) ?_ ?_
      rotate_left
      · show Act.put _ (some 54) _ = _
        simp only [Act.put, List.setIfInBounds_toArray, List.set_cons_zero, List.set_cons_succ, i64_w, i32_w]
        rfl
      refine pure_ (i := 4) (N := some 55) (v := ?_) (a' := ?_) #[true, true, true, true, true, false, false, false, false, false, false, false, false] rfl rfl (any_of HT_.out (by kernel_rfl)) (fun _ _ _ h => h) (Or.inl ⟨by rfl, ?_⟩) ?_ ?_
      rotate_left
      · intro w'
        go_simp
        with_reducible rfl
      rotate_left
      · simp only [Act.put, List.setIfInBounds_toArray, List.set_cons_zero, List.set_cons_succ, i64_w, i32_w]
        rfl
      refine pure_ (i := 5) (N := some 56) (v := ?_) (a' := ?_) #[true, true, true, true, true, true, false, false, false, false, false, false, false] rfl rfl (any_of HT_.out (by kernel_rfl)) (fun _ _ _ h => h) (Or.inl ⟨by rfl, ?_⟩) ?_ ?_
      rotate_left
      · intro w'
        go_simp
        with_reducible rfl
      rotate_left
      · simp only [Act.put, List.setIfInBounds_toArray, List.set_cons_zero, List.set_cons_succ, i64_w, i32_w]
        rfl
      refine take_ (i := 6) (N := some 57) (v := ?_) (a' := ?_) #[true, true, true, true, true, true, true, false, false, false, false, false, false] rfl rfl (take_ofW HT_.out HW_.out (by kernel_rfl)) (fun _ _ _ h => h) (Or.inl ⟨by rfl, ?_⟩) hHeld ?_ ?_
      rotate_left
      · rintro w' ⟨s0, s1, s2, s3, s4, s5⟩
        go_simp
        with_reducible rfl
      rotate_left
      · simp only [Act.put, List.setIfInBounds_toArray, List.set_cons_zero, List.set_cons_succ, i64_w, i32_w]
        rfl
      refine take_ (i := 8) (N := some 59) (v := ?_) (a' := ?_) #[true, true, true, true, true, true, true, false, true, false, false, false, false] rfl rfl (take_ofW HT_.out HW_.out (by kernel_rfl)) (fun _ _ _ h => h) (Or.inl ⟨by rfl, ?_⟩) hHeld ?_ ?_
      rotate_left
      · rintro w' ⟨s0, s1, s2, s3, s4, s5⟩
        go_simp
        with_reducible rfl
      rotate_left
      · simp only [Act.put, List.setIfInBounds_toArray, List.set_cons_zero, List.set_cons_succ, i64_w, i32_w]
        rfl
      refine one_ (i := 7) (N := some 58) #[true, true, true, true, true, true, true, true, true, false, false, false, false] rfl rfl (one_of HT_.out (by kernel_rfl)) (by decide) (fun K hK => ?_)
      refine goes_ Try.func22 (by kernel_rfl) rfl #[.agg #[.int .i64 t346, .int .i64 t347, .string t348]] (by rfl) rfl rfl (by (try simp only [List.map_toArray, List.map_cons, List.map_nil]); first | done | rfl | (simp only [List.length_drop, List.length_take]; rfl)) ?_
      with_reducible refine (impl_ValidValue.calls kj3 t346 t347 t348 t355 _ A42.out).mono ?_
      rintro e w47 ⟨rfl, hb⟩
      refine ⟨_, rfl, ?_⟩
      have n0_ := mk0 (bB (g := gb349) (o := .cells #[.int .i64 t343, .int .i64 t344, .string t345] 34 (0, 0)) (by (with_reducible repeat (first | apply bN | apply bD | apply bA)); exact BK349.out) hb)
      have n1_ := mk0 (bB (g := gb350) (o := .cells #[.int .i64 t346, .int .i64 t347, .string t348] 34 (0, 0)) (by (with_reducible repeat (first | apply bN | apply bD | apply bA)); exact BK350.out) hb)
      have n2_ := mk0 (below_step (by repeat (first | (with_reducible first | exact HB.out | apply wA | apply wN | apply wD | refine wS ?_ GE349.out | refine wS ?_ GE350.out) | exact HB.out)) hb)
      clear BK349
      clear BK350
      clear HB
      have BK349 := n0_
      have BK350 := n1_
      have HB := n2_
      clear n0_ n1_ n2_
      (try clear hb)
      (try clear hb2)
      (try clear hk)
      (try clear hi)
      refine hK.out _ _ ⟨(bC BK349.out 0).trans rfl, (bC BK349.out 1).trans rfl, (bC BK349.out 2).trans rfl, (bC BK350.out 0).trans rfl, (bC BK350.out 1).trans rfl, (bC BK350.out 2).trans rfl⟩ (fun hHeld => ?_)
      clear hK K
      refine norm_ (a' := ?_) ?_ ?_
      rotate_left
      · show Act.put _ (some 58) _ = _
        simp only [Act.put, List.setIfInBounds_toArray, List.set_cons_zero, List.set_cons_succ, i64_w, i32_w]
        rfl
      refine one_ (i := 9) (N := some 60) #[true, true, true, true, true, true, true, true, true, true, false, false, false] rfl rfl (one_of HT_.out (by kernel_rfl)) (by decide) (fun K hK => ?_)
      refine goes_ Try.func20 (by kernel_rfl) rfl #[.agg #[.int .i64 t346, .int .i64 t347, .string t348]] (by rfl) rfl rfl (by (try simp only [List.map_toArray, List.map_cons, List.map_nil]); first | done | rfl | (simp only [List.length_drop, List.length_take]; rfl)) ?_
      with_reducible refine (spec_ValidValue.calls kj3 t346 t347 t348 t356 _ A43.out).mono ?_
      rintro e w48 ⟨rfl, hb⟩
      refine ⟨_, rfl, ?_⟩
      have n0_ := mk0 (bB (g := gb349) (o := .cells #[.int .i64 t343, .int .i64 t344, .string t345] 34 (0, 0)) (by (with_reducible repeat (first | apply bN | apply bD | apply bA)); exact BK349.out) hb)
      have n1_ := mk0 (bB (g := gb350) (o := .cells #[.int .i64 t346, .int .i64 t347, .string t348] 34 (0, 0)) (by (with_reducible repeat (first | apply bN | apply bD | apply bA)); exact BK350.out) hb)
      have n2_ := mk0 (below_step (by repeat (first | (with_reducible first | exact HB.out | apply wA | apply wN | apply wD | refine wS ?_ GE349.out | refine wS ?_ GE350.out) | exact HB.out)) hb)
      clear BK349
      clear BK350
      clear HB
      have BK349 := n0_
      have BK350 := n1_
      have HB := n2_
      clear n0_ n1_ n2_
      (try clear hb)
      (try clear hb2)
      (try clear hk)
      (try clear hi)
      refine hK.out _ _ ⟨(bC BK349.out 0).trans rfl, (bC BK349.out 1).trans rfl, (bC BK349.out 2).trans rfl, (bC BK350.out 0).trans rfl, (bC BK350.out 1).trans rfl, (bC BK350.out 2).trans rfl⟩ (fun hHeld => ?_)
      clear hK K
      refine norm_ (a' := ?_) ?_ ?_
      rotate_left
      · show Act.put _ (some 60) _ = _
        simp only [Act.put, List.setIfInBounds_toArray, List.set_cons_zero, List.set_cons_succ, i64_w, i32_w]
        rfl
      refine pure_ (i := 10) (N := some 61) (v := ?_) (a' := ?_) #[true, true, true, true, true, true, true, true, true, true, true, false, false] rfl rfl (any_of HT_.out (by kernel_rfl)) (fun _ _ _ h => h) (Or.inl ⟨by rfl, ?_⟩) ?_ ?_
      rotate_left
      · intro w'
        go_simp
        with_reducible rfl
      rotate_left
      · simp only [Act.put, List.setIfInBounds_toArray, List.set_cons_zero, List.set_cons_succ, i64_w, i32_w]
        rfl
      refine pure_ (i := 11) (N := some 62) (v := ?_) (a' := ?_) #[true, true, true, true, true, true, true, true, true, true, true, true, false] rfl rfl (any_of HT_.out (by kernel_rfl)) (fun _ _ _ h => h) (Or.inl ⟨by rfl, ?_⟩) ?_ ?_
      rotate_left
      · intro w'
        go_simp
        with_reducible rfl
      rotate_left
      · simp only [Act.put, List.setIfInBounds_toArray, List.set_cons_zero, List.set_cons_succ, i64_w, i32_w]
        rfl
      refine pure_ (i := 12) (N := some 2) (v := ?_) (a' := ?_) #[true, true, true, true, true, true, true, true, true, true, true, true, true] rfl rfl (any_of HT_.out (by kernel_rfl)) (fun _ _ _ h => h) (Or.inl ⟨by rfl, ?_⟩) ?_ ?_
      rotate_left
      · intro w'
        go_simp
        with_reducible rfl
      rotate_left
      · simp only [Act.put, List.setIfInBounds_toArray, List.set_cons_zero, List.set_cons_succ, i64_w, i32_w]
        rfl
      refine done_ (done_of HT_.out (by kernel_rfl)) ?_
      try go_wp2
      go_ret
      exact ⟨by first | rfl | (simp [errW_none, errW_some] <;> rfl) | (simp [*, errW_none, errW_some] <;> rfl), by repeat (first | (with_reducible first | exact HB.out | apply wA | apply wN | apply wD | refine wS ?_ GE349.out | refine wS ?_ GE350.out) | exact HB.out)⟩
    rw [if_neg c41] at H
    have c41b0 : (t353 == t354) = false := by simpa using c41
    (try (have c41b1 : decide (t353 = t354) = false := by simpa using c41))
    (try (have c41b2 : (t353 == t354) = false := by simpa using c41))
    (try (have c41b3 : ¬ (t353 = t354) := by simpa using c41))
    (try (have c41b4 : (!(t353 == t354)) = true := by (have h_ := c41; revert h_; cases t353 <;> cases t354 <;> simp)))
    clear c41
    obtain rfl := Option.some.inj H
    exact absurd hrt (by decide)
  replace c38 := Bool.eq_false_iff.mpr c38
  subst c38
  have H1 : ((impl_Binary.f kj3 11 t343 t344 t345 t346 t347 t348).bind fun bt357 => ((impl_Binary.f kj3 16 t343 t344 t345 t346 t347 t348).bind fun bt362 => ((impl_Binary.f kj3 12 t343 t344 t345 t346 t347 t348).bind fun bt367 => ((impl_Binary.f kj3 9 bt362.1 bt362.2.1 bt362.2.2.1 bt367.1 bt367.2.1 bt367.2.2.1).bind fun bt372 => (if bt357.2.2.2.size + bt362.2.2.2.size ≤ 9223372036854775807 then (if (bt357.2.2.2 ++ bt362.2.2.2).size + bt367.2.2.2.size ≤ 9223372036854775807 then (if ((bt357.2.2.2 ++ bt362.2.2.2) ++ bt367.2.2.2).size + bt372.2.2.2.size ≤ 9223372036854775807 then (if (((bt357.2.2.2 ++ bt362.2.2.2) ++ bt367.2.2.2) ++ bt372.2.2.2).toList = ([] : List UInt8) then (laws_FnBits.j1 kj3 l0 (!(bt372.1 == bt357.1) || (!(bt372.2.1 == bt357.2.1) || (!(bt372.2.2.1.toList == bt357.2.2.1.toList)))) t343 t344 t345) else (laws_FnBits.j1 kj3 l0 true t343 t344 t345)) else (none)) else (none)) else (none)))))) = some r := by rw [if_neg (show ¬ (false = true) by decide)] at H; exact H
  clear H
  have H := H1
  clear H1
  replace H := Option.bind_eq_some_iff.mp H
  obtain ⟨⟨t357, t358, t359, t360⟩, A490, H⟩ := H
  replace H : ((impl_Binary.f kj3 16 t343 t344 t345 t346 t347 t348).bind fun bt362 => ((impl_Binary.f kj3 12 t343 t344 t345 t346 t347 t348).bind fun bt367 => ((impl_Binary.f kj3 9 bt362.1 bt362.2.1 bt362.2.2.1 bt367.1 bt367.2.1 bt367.2.2.1).bind fun bt372 => (if t360.size + bt362.2.2.2.size ≤ 9223372036854775807 then (if (t360 ++ bt362.2.2.2).size + bt367.2.2.2.size ≤ 9223372036854775807 then (if ((t360 ++ bt362.2.2.2) ++ bt367.2.2.2).size + bt372.2.2.2.size ≤ 9223372036854775807 then (if (((t360 ++ bt362.2.2.2) ++ bt367.2.2.2) ++ bt372.2.2.2).toList = ([] : List UInt8) then (laws_FnBits.j1 kj3 l0 (!(bt372.1 == t357) || (!(bt372.2.1 == t358) || (!(bt372.2.2.1.toList == t359.toList)))) t343 t344 t345) else (laws_FnBits.j1 kj3 l0 true t343 t344 t345)) else (none)) else (none)) else (none))))) = some r := H
  have A49 := mk0 A490
  clear A490
  replace H := Option.bind_eq_some_iff.mp H
  obtain ⟨⟨t362, t363, t364, t365⟩, A500, H⟩ := H
  replace H : ((impl_Binary.f kj3 12 t343 t344 t345 t346 t347 t348).bind fun bt367 => ((impl_Binary.f kj3 9 t362 t363 t364 bt367.1 bt367.2.1 bt367.2.2.1).bind fun bt372 => (if t360.size + t365.size ≤ 9223372036854775807 then (if (t360 ++ t365).size + bt367.2.2.2.size ≤ 9223372036854775807 then (if ((t360 ++ t365) ++ bt367.2.2.2).size + bt372.2.2.2.size ≤ 9223372036854775807 then (if (((t360 ++ t365) ++ bt367.2.2.2) ++ bt372.2.2.2).toList = ([] : List UInt8) then (laws_FnBits.j1 kj3 l0 (!(bt372.1 == t357) || (!(bt372.2.1 == t358) || (!(bt372.2.2.1.toList == t359.toList)))) t343 t344 t345) else (laws_FnBits.j1 kj3 l0 true t343 t344 t345)) else (none)) else (none)) else (none)))) = some r := H
  have A50 := mk0 A500
  clear A500
  replace H := Option.bind_eq_some_iff.mp H
  obtain ⟨⟨t367, t368, t369, t370⟩, A510, H⟩ := H
  replace H : ((impl_Binary.f kj3 9 t362 t363 t364 t367 t368 t369).bind fun bt372 => (if t360.size + t365.size ≤ 9223372036854775807 then (if (t360 ++ t365).size + t370.size ≤ 9223372036854775807 then (if ((t360 ++ t365) ++ t370).size + bt372.2.2.2.size ≤ 9223372036854775807 then (if (((t360 ++ t365) ++ t370) ++ bt372.2.2.2).toList = ([] : List UInt8) then (laws_FnBits.j1 kj3 l0 (!(bt372.1 == t357) || (!(bt372.2.1 == t358) || (!(bt372.2.2.1.toList == t359.toList)))) t343 t344 t345) else (laws_FnBits.j1 kj3 l0 true t343 t344 t345)) else (none)) else (none)) else (none))) = some r := H
  have A51 := mk0 A510
  clear A510
  replace H := Option.bind_eq_some_iff.mp H
  obtain ⟨⟨t372, t373, t374, t375⟩, A520, H⟩ := H
  replace H : (if t360.size + t365.size ≤ 9223372036854775807 then (if (t360 ++ t365).size + t370.size ≤ 9223372036854775807 then (if ((t360 ++ t365) ++ t370).size + t375.size ≤ 9223372036854775807 then (if (((t360 ++ t365) ++ t370) ++ t375).toList = ([] : List UInt8) then (laws_FnBits.j1 kj3 l0 (!(t372 == t357) || (!(t373 == t358) || (!(t374.toList == t359.toList)))) t343 t344 t345) else (laws_FnBits.j1 kj3 l0 true t343 t344 t345)) else (none)) else (none)) else (none)) = some r := H
  have A52 := mk0 A520
  clear A520
  have HC53 := mk0 H
  clear H
  have hnb54 := NB349_350.out
  have hnc54 := NB350_349.out
  have hcz55_0 : wc.cell? ⟨gb349, 0, none⟩ = some (.int .i64 t343) := (bC BK349.out 0).trans rfl
  have hcz55_1 : wc.cell? ⟨gb349, 1, none⟩ = some (.int .i64 t344) := (bC BK349.out 1).trans rfl
  have hcz55_2 : wc.cell? ⟨gb349, 2, none⟩ = some (.string t345) := (bC BK349.out 2).trans rfl
  have hfz55_0 := bF BK349.out 0
  have hfz55_1 := bF BK349.out 1
  have hfz55_2 := bF BK349.out 2
  have hcz56_0 : wc.cell? ⟨gb350, 0, none⟩ = some (.int .i64 t346) := (bC BK350.out 0).trans rfl
  have hcz56_1 : wc.cell? ⟨gb350, 1, none⟩ = some (.int .i64 t347) := (bC BK350.out 1).trans rfl
  have hcz56_2 : wc.cell? ⟨gb350, 2, none⟩ = some (.string t348) := (bC BK350.out 2).trans rfl
  have hfz56_0 := bF BK350.out 0
  have hfz56_1 := bF BK350.out 1
  have hfz56_2 := bF BK350.out 2
  go_upto_region 10 with (first | ((with_reducible refine gate_callee (f := 55) rfl ?_); refine goesL_ (some 66) rfl rfl Try.func55 (by kernel_rfl) rfl #[.int .i64 11, .agg #[.int .i64 t343, .int .i64 t344, .string t345], .agg #[.int .i64 t346, .int .i64 t347, .string t348]] rfl (by (try simp only [List.map_toArray, List.map_cons, List.map_nil]); first | done | rfl | (simp only [List.length_drop, List.length_take]; rfl)) ?_; (with_reducible refine (impl_Binary.calls kj3 11 t343 t344 t345 t346 t347 t348 t357 t358 t359 t360 _ A49.out).mono ?_); rintro e w57 ⟨rfl, hb⟩; refine ⟨_, rfl, ?_⟩; have n0_ := mk0 (bB (g := gb349) (o := .cells #[.int .i64 t343, .int .i64 t344, .string t345] 34 (0, 0)) (by (with_reducible repeat (first | apply bN | apply bD | apply bA)); exact BK349.out) hb); have n1_ := mk0 (bB (g := gb350) (o := .cells #[.int .i64 t346, .int .i64 t347, .string t348] 34 (0, 0)) (by (with_reducible repeat (first | apply bN | apply bD | apply bA)); exact BK350.out) hb); have n2_ := mk0 (below_step (by repeat (first | (with_reducible first | exact HB.out | apply wA | apply wN | apply wD | refine wS ?_ GE349.out | refine wS ?_ GE350.out) | exact HB.out)) hb); clear BK349; clear BK350; clear HB; have BK349 := n0_; have BK350 := n1_; have HB := n2_; clear n0_ n1_ n2_; (try clear hb); (try clear hb2); (try clear hk); (try clear hi)) | ((with_reducible refine gate_dst (N := 6) rfl ?_); refine box_event ?hg (N := 6) ?hd (cs := #[.int .i64 0, .int .i64 0, .string (⟨#[]⟩ : ByteArray)]) (t := 34) ?hr ?_; (case hd => rfl); (case hg => rfl); (case hr => first | (go_simp; done) | (go_simp; rfl)); intro gb361 hg w58 hbox hb; have n0_ := mk0 (bB (g := gb349) (o := .cells #[.int .i64 t343, .int .i64 t344, .string t345] 34 (0, 0)) (by (with_reducible repeat (first | apply bN | apply bD | apply bA)); exact BK349.out) hb); have n1_ := mk0 (bB (g := gb350) (o := .cells #[.int .i64 t346, .int .i64 t347, .string t348] 34 (0, 0)) (by (with_reducible repeat (first | apply bN | apply bD | apply bA)); exact BK350.out) hb); have n2_ := mk0 (below_step (by repeat (first | (with_reducible first | exact HB.out | apply wA | apply wN | apply wD | refine wS ?_ GE349.out | refine wS ?_ GE350.out) | exact HB.out)) hb); have n3_ := mk0 (hbox); have n4_ := mk0 ((by rw [hg]; exact (below_size (by repeat (first | (with_reducible first | exact HB.out | apply wA | apply wN | apply wD | refine wS ?_ GE349.out | refine wS ?_ GE350.out) | exact HB.out))) : w.heap.size ≤ gb361)); have n5_ := mk0 ((by rw [hg]; exact (below_size (by repeat (first | (with_reducible first | exact HB.out | apply wA | apply wN | apply wD | refine wS ?_ GE349.out | refine wS ?_ GE350.out) | exact HB.out))) : w.heap.size ≤ gb361)); have n6_ := mk0 ((by rw [hg]; exact Nat.ne_of_lt (blk_lt (g := gb349) (o := .cells #[.int .i64 t343, .int .i64 t344, .string t345] 34 (0, 0)) (by (with_reducible repeat (first | apply bN | apply bD | apply bA)); exact BK349.out)) : gb349 ≠ gb361)); have n7_ := mk0 ((by rw [hg]; exact Nat.ne_of_gt (blk_lt (g := gb349) (o := .cells #[.int .i64 t343, .int .i64 t344, .string t345] 34 (0, 0)) (by (with_reducible repeat (first | apply bN | apply bD | apply bA)); exact BK349.out)) : gb361 ≠ gb349)); have n8_ := mk0 ((by rw [hg]; exact Nat.ne_of_lt (blk_lt (g := gb350) (o := .cells #[.int .i64 t346, .int .i64 t347, .string t348] 34 (0, 0)) (by (with_reducible repeat (first | apply bN | apply bD | apply bA)); exact BK350.out)) : gb350 ≠ gb361)); have n9_ := mk0 ((by rw [hg]; exact Nat.ne_of_gt (blk_lt (g := gb350) (o := .cells #[.int .i64 t346, .int .i64 t347, .string t348] 34 (0, 0)) (by (with_reducible repeat (first | apply bN | apply bD | apply bA)); exact BK350.out)) : gb361 ≠ gb350)); clear BK349; clear BK350; clear HB; have BK349 := n0_; have BK350 := n1_; have HB := n2_; have BK361 := n3_; have GW361 := n4_; have GE361 := n5_; have NB349_361 := n6_; have NB361_349 := n7_; have NB350_361 := n8_; have NB361_350 := n9_; clear n0_ n1_ n2_ n3_ n4_ n5_ n6_ n7_ n8_ n9_; clear hb hbox hg; have hnb59 := NB361_349.out; have hnc59 := NB349_361.out; have hnb60 := NB361_350.out; have hnc60 := NB350_361.out; have hcz61_0 : w58.cell? ⟨gb361, 0, none⟩ = some (.int .i64 0) := (bC BK361.out 0).trans rfl; have hcz61_1 : w58.cell? ⟨gb361, 1, none⟩ = some (.int .i64 0) := (bC BK361.out 1).trans rfl; have hcz61_2 : w58.cell? ⟨gb361, 2, none⟩ = some (.string (⟨#[]⟩ : ByteArray)) := (bC BK361.out 2).trans rfl; have hfz61_0 := bF BK361.out 0; have hfz61_1 := bF BK361.out 1; have hfz61_2 := bF BK361.out 2; have hcz62_0 : w58.cell? ⟨gb349, 0, none⟩ = some (.int .i64 t343) := (bC BK349.out 0).trans rfl; have hcz62_1 : w58.cell? ⟨gb349, 1, none⟩ = some (.int .i64 t344) := (bC BK349.out 1).trans rfl; have hcz62_2 : w58.cell? ⟨gb349, 2, none⟩ = some (.string t345) := (bC BK349.out 2).trans rfl; have hfz62_0 := bF BK349.out 0; have hfz62_1 := bF BK349.out 1; have hfz62_2 := bF BK349.out 2; have hcz63_0 : w58.cell? ⟨gb350, 0, none⟩ = some (.int .i64 t346) := (bC BK350.out 0).trans rfl; have hcz63_1 : w58.cell? ⟨gb350, 1, none⟩ = some (.int .i64 t347) := (bC BK350.out 1).trans rfl; have hcz63_2 : w58.cell? ⟨gb350, 2, none⟩ = some (.string t348) := (bC BK350.out 2).trans rfl; have hfz63_0 := bF BK350.out 0; have hfz63_1 := bF BK350.out 1; have hfz63_2 := bF BK350.out 2) | ((with_reducible refine gate_callee (f := 55) rfl ?_); refine goesL_ (some 72) rfl rfl Try.func55 (by kernel_rfl) rfl #[.int .i64 16, .agg #[.int .i64 t343, .int .i64 t344, .string t345], .agg #[.int .i64 t346, .int .i64 t347, .string t348]] rfl (by (try simp only [List.map_toArray, List.map_cons, List.map_nil]); first | done | rfl | (simp only [List.length_drop, List.length_take]; rfl)) ?_; (with_reducible refine (impl_Binary.calls kj3 16 t343 t344 t345 t346 t347 t348 t362 t363 t364 t365 _ A50.out).mono ?_); rintro e w64 ⟨rfl, hb⟩; refine ⟨_, rfl, ?_⟩; have n0_ := mk0 (bB (g := gb349) (o := .cells #[.int .i64 t343, .int .i64 t344, .string t345] 34 (0, 0)) (by (with_reducible repeat (first | apply bN | apply bD | apply bA)); refine blk_far ?_ NB349_361.out _; (with_reducible repeat (first | apply bN | apply bD | apply bA)); refine blk_far ?_ NB349_361.out _; (with_reducible repeat (first | apply bN | apply bD | apply bA)); refine blk_far ?_ NB349_361.out _; (with_reducible repeat (first | apply bN | apply bD | apply bA)); exact BK349.out) hb); have n1_ := mk0 (bB (g := gb350) (o := .cells #[.int .i64 t346, .int .i64 t347, .string t348] 34 (0, 0)) (by (with_reducible repeat (first | apply bN | apply bD | apply bA)); refine blk_far ?_ NB350_361.out _; (with_reducible repeat (first | apply bN | apply bD | apply bA)); refine blk_far ?_ NB350_361.out _; (with_reducible repeat (first | apply bN | apply bD | apply bA)); refine blk_far ?_ NB350_361.out _; (with_reducible repeat (first | apply bN | apply bD | apply bA)); exact BK350.out) hb); have n2_ := mk0 (bB (g := gb361) (o := .cells #[.int .i64 t357, .int .i64 t358, .string t359] 34 (0, 0)) (by (with_reducible repeat (first | apply bN | apply bD | apply bA)); refine blk_put (cs := #[.int .i64 t357, .int .i64 t358, .string (⟨#[]⟩ : ByteArray)]) ?_ 2 _ rfl; (with_reducible repeat (first | apply bN | apply bD | apply bA)); refine blk_put (cs := #[.int .i64 t357, .int .i64 0, .string (⟨#[]⟩ : ByteArray)]) ?_ 1 _ rfl; (with_reducible repeat (first | apply bN | apply bD | apply bA)); refine blk_put (cs := #[.int .i64 0, .int .i64 0, .string (⟨#[]⟩ : ByteArray)]) ?_ 0 _ rfl; (with_reducible repeat (first | apply bN | apply bD | apply bA)); exact BK361.out) hb); have n3_ := mk0 (below_step (by repeat (first | (with_reducible first | exact HB.out | apply wA | apply wN | apply wD | refine wS ?_ GE349.out | refine wS ?_ GE350.out | refine wS ?_ GE361.out) | exact HB.out)) hb); clear BK349; clear BK350; clear BK361; clear HB; have BK349 := n0_; have BK350 := n1_; have BK361 := n2_; have HB := n3_; clear n0_ n1_ n2_ n3_; (try clear hb); (try clear hb2); (try clear hk); (try clear hi)) | ((with_reducible refine gate_dst (N := 8) rfl ?_); refine box_event ?hg (N := 8) ?hd (cs := #[.int .i64 0, .int .i64 0, .string (⟨#[]⟩ : ByteArray)]) (t := 34) ?hr ?_; (case hd => rfl); (case hg => rfl); (case hr => first | (go_simp; done) | (go_simp; rfl)); intro gb366 hg w65 hbox hb; have n0_ := mk0 (bB (g := gb349) (o := .cells #[.int .i64 t343, .int .i64 t344, .string t345] 34 (0, 0)) (by (with_reducible repeat (first | apply bN | apply bD | apply bA)); exact BK349.out) hb); have n1_ := mk0 (bB (g := gb350) (o := .cells #[.int .i64 t346, .int .i64 t347, .string t348] 34 (0, 0)) (by (with_reducible repeat (first | apply bN | apply bD | apply bA)); exact BK350.out) hb); have n2_ := mk0 (bB (g := gb361) (o := .cells #[.int .i64 t357, .int .i64 t358, .string t359] 34 (0, 0)) (by (with_reducible repeat (first | apply bN | apply bD | apply bA)); exact BK361.out) hb); have n3_ := mk0 (below_step (by repeat (first | (with_reducible first | exact HB.out | apply wA | apply wN | apply wD | refine wS ?_ GE349.out | refine wS ?_ GE350.out | refine wS ?_ GE361.out) | exact HB.out)) hb); have n4_ := mk0 (hbox); have n5_ := mk0 ((by rw [hg]; exact (below_size (by repeat (first | (with_reducible first | exact HB.out | apply wA | apply wN | apply wD | refine wS ?_ GE349.out | refine wS ?_ GE350.out | refine wS ?_ GE361.out) | exact HB.out))) : w.heap.size ≤ gb366)); have n6_ := mk0 ((by rw [hg]; exact (below_size (by repeat (first | (with_reducible first | exact HB.out | apply wA | apply wN | apply wD | refine wS ?_ GE349.out | refine wS ?_ GE350.out | refine wS ?_ GE361.out) | exact HB.out))) : w.heap.size ≤ gb366)); have n7_ := mk0 ((by rw [hg]; exact Nat.ne_of_lt (blk_lt (g := gb349) (o := .cells #[.int .i64 t343, .int .i64 t344, .string t345] 34 (0, 0)) (by (with_reducible repeat (first | apply bN | apply bD | apply bA)); exact BK349.out)) : gb349 ≠ gb366)); have n8_ := mk0 ((by rw [hg]; exact Nat.ne_of_gt (blk_lt (g := gb349) (o := .cells #[.int .i64 t343, .int .i64 t344, .string t345] 34 (0, 0)) (by (with_reducible repeat (first | apply bN | apply bD | apply bA)); exact BK349.out)) : gb366 ≠ gb349)); have n9_ := mk0 ((by rw [hg]; exact Nat.ne_of_lt (blk_lt (g := gb350) (o := .cells #[.int .i64 t346, .int .i64 t347, .string t348] 34 (0, 0)) (by (with_reducible repeat (first | apply bN | apply bD | apply bA)); exact BK350.out)) : gb350 ≠ gb366)); have n10_ := mk0 ((by rw [hg]; exact Nat.ne_of_gt (blk_lt (g := gb350) (o := .cells #[.int .i64 t346, .int .i64 t347, .string t348] 34 (0, 0)) (by (with_reducible repeat (first | apply bN | apply bD | apply bA)); exact BK350.out)) : gb366 ≠ gb350)); have n11_ := mk0 ((by rw [hg]; exact Nat.ne_of_lt (blk_lt (g := gb361) (o := .cells #[.int .i64 t357, .int .i64 t358, .string t359] 34 (0, 0)) (by (with_reducible repeat (first | apply bN | apply bD | apply bA)); exact BK361.out)) : gb361 ≠ gb366)); have n12_ := mk0 ((by rw [hg]; exact Nat.ne_of_gt (blk_lt (g := gb361) (o := .cells #[.int .i64 t357, .int .i64 t358, .string t359] 34 (0, 0)) (by (with_reducible repeat (first | apply bN | apply bD | apply bA)); exact BK361.out)) : gb366 ≠ gb361)); clear BK349; clear BK350; clear BK361; clear HB; have BK349 := n0_; have BK350 := n1_; have BK361 := n2_; have HB := n3_; have BK366 := n4_; have GW366 := n5_; have GE366 := n6_; have NB349_366 := n7_; have NB366_349 := n8_; have NB350_366 := n9_; have NB366_350 := n10_; have NB361_366 := n11_; have NB366_361 := n12_; clear n0_ n1_ n2_ n3_ n4_ n5_ n6_ n7_ n8_ n9_ n10_ n11_ n12_; clear hb hbox hg; have hnb66 := NB366_349.out; have hnc66 := NB349_366.out; have hnb67 := NB366_350.out; have hnc67 := NB350_366.out; have hnb68 := NB366_361.out; have hnc68 := NB361_366.out; have hcz69_0 : w65.cell? ⟨gb366, 0, none⟩ = some (.int .i64 0) := (bC BK366.out 0).trans rfl; have hcz69_1 : w65.cell? ⟨gb366, 1, none⟩ = some (.int .i64 0) := (bC BK366.out 1).trans rfl; have hcz69_2 : w65.cell? ⟨gb366, 2, none⟩ = some (.string (⟨#[]⟩ : ByteArray)) := (bC BK366.out 2).trans rfl; have hfz69_0 := bF BK366.out 0; have hfz69_1 := bF BK366.out 1; have hfz69_2 := bF BK366.out 2; have hcz70_0 : w65.cell? ⟨gb349, 0, none⟩ = some (.int .i64 t343) := (bC BK349.out 0).trans rfl; have hcz70_1 : w65.cell? ⟨gb349, 1, none⟩ = some (.int .i64 t344) := (bC BK349.out 1).trans rfl; have hcz70_2 : w65.cell? ⟨gb349, 2, none⟩ = some (.string t345) := (bC BK349.out 2).trans rfl; have hfz70_0 := bF BK349.out 0; have hfz70_1 := bF BK349.out 1; have hfz70_2 := bF BK349.out 2; have hcz71_0 : w65.cell? ⟨gb350, 0, none⟩ = some (.int .i64 t346) := (bC BK350.out 0).trans rfl; have hcz71_1 : w65.cell? ⟨gb350, 1, none⟩ = some (.int .i64 t347) := (bC BK350.out 1).trans rfl; have hcz71_2 : w65.cell? ⟨gb350, 2, none⟩ = some (.string t348) := (bC BK350.out 2).trans rfl; have hfz71_0 := bF BK350.out 0; have hfz71_1 := bF BK350.out 1; have hfz71_2 := bF BK350.out 2) | ((with_reducible refine gate_callee (f := 55) rfl ?_); refine goesL_ (some 78) rfl rfl Try.func55 (by kernel_rfl) rfl #[.int .i64 12, .agg #[.int .i64 t343, .int .i64 t344, .string t345], .agg #[.int .i64 t346, .int .i64 t347, .string t348]] rfl (by (try simp only [List.map_toArray, List.map_cons, List.map_nil]); first | done | rfl | (simp only [List.length_drop, List.length_take]; rfl)) ?_; (with_reducible refine (impl_Binary.calls kj3 12 t343 t344 t345 t346 t347 t348 t367 t368 t369 t370 _ A51.out).mono ?_); rintro e w72 ⟨rfl, hb⟩; refine ⟨_, rfl, ?_⟩; have n0_ := mk0 (bB (g := gb349) (o := .cells #[.int .i64 t343, .int .i64 t344, .string t345] 34 (0, 0)) (by (with_reducible repeat (first | apply bN | apply bD | apply bA)); refine blk_far ?_ NB349_366.out _; (with_reducible repeat (first | apply bN | apply bD | apply bA)); refine blk_far ?_ NB349_366.out _; (with_reducible repeat (first | apply bN | apply bD | apply bA)); refine blk_far ?_ NB349_366.out _; (with_reducible repeat (first | apply bN | apply bD | apply bA)); exact BK349.out) hb); have n1_ := mk0 (bB (g := gb350) (o := .cells #[.int .i64 t346, .int .i64 t347, .string t348] 34 (0, 0)) (by (with_reducible repeat (first | apply bN | apply bD | apply bA)); refine blk_far ?_ NB350_366.out _; (with_reducible repeat (first | apply bN | apply bD | apply bA)); refine blk_far ?_ NB350_366.out _; (with_reducible repeat (first | apply bN | apply bD | apply bA)); refine blk_far ?_ NB350_366.out _; (with_reducible repeat (first | apply bN | apply bD | apply bA)); exact BK350.out) hb); have n2_ := mk0 (bB (g := gb361) (o := .cells #[.int .i64 t357, .int .i64 t358, .string t359] 34 (0, 0)) (by (with_reducible repeat (first | apply bN | apply bD | apply bA)); refine blk_far ?_ NB361_366.out _; (with_reducible repeat (first | apply bN | apply bD | apply bA)); refine blk_far ?_ NB361_366.out _; (with_reducible repeat (first | apply bN | apply bD | apply bA)); refine blk_far ?_ NB361_366.out _; (with_reducible repeat (first | apply bN | apply bD | apply bA)); exact BK361.out) hb); have n3_ := mk0 (bB (g := gb366) (o := .cells #[.int .i64 t362, .int .i64 t363, .string t364] 34 (0, 0)) (by (with_reducible repeat (first | apply bN | apply bD | apply bA)); refine blk_put (cs := #[.int .i64 t362, .int .i64 t363, .string (⟨#[]⟩ : ByteArray)]) ?_ 2 _ rfl; (with_reducible repeat (first | apply bN | apply bD | apply bA)); refine blk_put (cs := #[.int .i64 t362, .int .i64 0, .string (⟨#[]⟩ : ByteArray)]) ?_ 1 _ rfl; (with_reducible repeat (first | apply bN | apply bD | apply bA)); refine blk_put (cs := #[.int .i64 0, .int .i64 0, .string (⟨#[]⟩ : ByteArray)]) ?_ 0 _ rfl; (with_reducible repeat (first | apply bN | apply bD | apply bA)); exact BK366.out) hb); have n4_ := mk0 (below_step (by repeat (first | (with_reducible first | exact HB.out | apply wA | apply wN | apply wD | refine wS ?_ GE349.out | refine wS ?_ GE350.out | refine wS ?_ GE361.out | refine wS ?_ GE366.out) | exact HB.out)) hb); clear BK349; clear BK350; clear BK361; clear BK366; clear HB; have BK349 := n0_; have BK350 := n1_; have BK361 := n2_; have BK366 := n3_; have HB := n4_; clear n0_ n1_ n2_ n3_ n4_; (try clear hb); (try clear hb2); (try clear hk); (try clear hi)) | ((with_reducible refine gate_dst (N := 10) rfl ?_); refine box_event ?hg (N := 10) ?hd (cs := #[.int .i64 0, .int .i64 0, .string (⟨#[]⟩ : ByteArray)]) (t := 34) ?hr ?_; (case hd => rfl); (case hg => rfl); (case hr => first | (go_simp; done) | (go_simp; rfl)); intro gb371 hg w73 hbox hb; have n0_ := mk0 (bB (g := gb349) (o := .cells #[.int .i64 t343, .int .i64 t344, .string t345] 34 (0, 0)) (by (with_reducible repeat (first | apply bN | apply bD | apply bA)); exact BK349.out) hb); have n1_ := mk0 (bB (g := gb350) (o := .cells #[.int .i64 t346, .int .i64 t347, .string t348] 34 (0, 0)) (by (with_reducible repeat (first | apply bN | apply bD | apply bA)); exact BK350.out) hb); have n2_ := mk0 (bB (g := gb361) (o := .cells #[.int .i64 t357, .int .i64 t358, .string t359] 34 (0, 0)) (by (with_reducible repeat (first | apply bN | apply bD | apply bA)); exact BK361.out) hb); have n3_ := mk0 (bB (g := gb366) (o := .cells #[.int .i64 t362, .int .i64 t363, .string t364] 34 (0, 0)) (by (with_reducible repeat (first | apply bN | apply bD | apply bA)); exact BK366.out) hb); have n4_ := mk0 (below_step (by repeat (first | (with_reducible first | exact HB.out | apply wA | apply wN | apply wD | refine wS ?_ GE349.out | refine wS ?_ GE350.out | refine wS ?_ GE361.out | refine wS ?_ GE366.out) | exact HB.out)) hb); have n5_ := mk0 (hbox); have n6_ := mk0 ((by rw [hg]; exact (below_size (by repeat (first | (with_reducible first | exact HB.out | apply wA | apply wN | apply wD | refine wS ?_ GE349.out | refine wS ?_ GE350.out | refine wS ?_ GE361.out | refine wS ?_ GE366.out) | exact HB.out))) : w.heap.size ≤ gb371)); have n7_ := mk0 ((by rw [hg]; exact (below_size (by repeat (first | (with_reducible first | exact HB.out | apply wA | apply wN | apply wD | refine wS ?_ GE349.out | refine wS ?_ GE350.out | refine wS ?_ GE361.out | refine wS ?_ GE366.out) | exact HB.out))) : w.heap.size ≤ gb371)); have n8_ := mk0 ((by rw [hg]; exact Nat.ne_of_lt (blk_lt (g := gb349) (o := .cells #[.int .i64 t343, .int .i64 t344, .string t345] 34 (0, 0)) (by (with_reducible repeat (first | apply bN | apply bD | apply bA)); exact BK349.out)) : gb349 ≠ gb371)); have n9_ := mk0 ((by rw [hg]; exact Nat.ne_of_gt (blk_lt (g := gb349) (o := .cells #[.int .i64 t343, .int .i64 t344, .string t345] 34 (0, 0)) (by (with_reducible repeat (first | apply bN | apply bD | apply bA)); exact BK349.out)) : gb371 ≠ gb349)); have n10_ := mk0 ((by rw [hg]; exact Nat.ne_of_lt (blk_lt (g := gb350) (o := .cells #[.int .i64 t346, .int .i64 t347, .string t348] 34 (0, 0)) (by (with_reducible repeat (first | apply bN | apply bD | apply bA)); exact BK350.out)) : gb350 ≠ gb371)); have n11_ := mk0 ((by rw [hg]; exact Nat.ne_of_gt (blk_lt (g := gb350) (o := .cells #[.int .i64 t346, .int .i64 t347, .string t348] 34 (0, 0)) (by (with_reducible repeat (first | apply bN | apply bD | apply bA)); exact BK350.out)) : gb371 ≠ gb350)); have n12_ := mk0 ((by rw [hg]; exact Nat.ne_of_lt (blk_lt (g := gb361) (o := .cells #[.int .i64 t357, .int .i64 t358, .string t359] 34 (0, 0)) (by (with_reducible repeat (first | apply bN | apply bD | apply bA)); exact BK361.out)) : gb361 ≠ gb371)); have n13_ := mk0 ((by rw [hg]; exact Nat.ne_of_gt (blk_lt (g := gb361) (o := .cells #[.int .i64 t357, .int .i64 t358, .string t359] 34 (0, 0)) (by (with_reducible repeat (first | apply bN | apply bD | apply bA)); exact BK361.out)) : gb371 ≠ gb361)); have n14_ := mk0 ((by rw [hg]; exact Nat.ne_of_lt (blk_lt (g := gb366) (o := .cells #[.int .i64 t362, .int .i64 t363, .string t364] 34 (0, 0)) (by (with_reducible repeat (first | apply bN | apply bD | apply bA)); exact BK366.out)) : gb366 ≠ gb371)); have n15_ := mk0 ((by rw [hg]; exact Nat.ne_of_gt (blk_lt (g := gb366) (o := .cells #[.int .i64 t362, .int .i64 t363, .string t364] 34 (0, 0)) (by (with_reducible repeat (first | apply bN | apply bD | apply bA)); exact BK366.out)) : gb371 ≠ gb366)); clear BK349; clear BK350; clear BK361; clear BK366; clear HB; have BK349 := n0_; have BK350 := n1_; have BK361 := n2_; have BK366 := n3_; have HB := n4_; have BK371 := n5_; have GW371 := n6_; have GE371 := n7_; have NB349_371 := n8_; have NB371_349 := n9_; have NB350_371 := n10_; have NB371_350 := n11_; have NB361_371 := n12_; have NB371_361 := n13_; have NB366_371 := n14_; have NB371_366 := n15_; clear n0_ n1_ n2_ n3_ n4_ n5_ n6_ n7_ n8_ n9_ n10_ n11_ n12_ n13_ n14_ n15_; clear hb hbox hg; have hnb74 := NB371_349.out; have hnc74 := NB349_371.out; have hnb75 := NB371_350.out; have hnc75 := NB350_371.out; have hnb76 := NB371_361.out; have hnc76 := NB361_371.out; have hnb77 := NB371_366.out; have hnc77 := NB366_371.out; have hcz78_0 : w73.cell? ⟨gb371, 0, none⟩ = some (.int .i64 0) := (bC BK371.out 0).trans rfl; have hcz78_1 : w73.cell? ⟨gb371, 1, none⟩ = some (.int .i64 0) := (bC BK371.out 1).trans rfl; have hcz78_2 : w73.cell? ⟨gb371, 2, none⟩ = some (.string (⟨#[]⟩ : ByteArray)) := (bC BK371.out 2).trans rfl; have hfz78_0 := bF BK371.out 0; have hfz78_1 := bF BK371.out 1; have hfz78_2 := bF BK371.out 2; have hcz79_0 : w73.cell? ⟨gb366, 0, none⟩ = some (.int .i64 t362) := (bC BK366.out 0).trans rfl; have hcz79_1 : w73.cell? ⟨gb366, 1, none⟩ = some (.int .i64 t363) := (bC BK366.out 1).trans rfl; have hcz79_2 : w73.cell? ⟨gb366, 2, none⟩ = some (.string t364) := (bC BK366.out 2).trans rfl; have hfz79_0 := bF BK366.out 0; have hfz79_1 := bF BK366.out 1; have hfz79_2 := bF BK366.out 2) | ((with_reducible refine gate_callee (f := 55) rfl ?_); refine goesL_ (some 84) rfl rfl Try.func55 (by kernel_rfl) rfl #[.int .i64 9, .agg #[.int .i64 t362, .int .i64 t363, .string t364], .agg #[.int .i64 t367, .int .i64 t368, .string t369]] rfl (by (try simp only [List.map_toArray, List.map_cons, List.map_nil]); first | done | rfl | (simp only [List.length_drop, List.length_take]; rfl)) ?_; (with_reducible refine (impl_Binary.calls kj3 9 t362 t363 t364 t367 t368 t369 t372 t373 t374 t375 _ A52.out).mono ?_); rintro e w80 ⟨rfl, hb⟩; refine ⟨_, rfl, ?_⟩; have n0_ := mk0 (bB (g := gb349) (o := .cells #[.int .i64 t343, .int .i64 t344, .string t345] 34 (0, 0)) (by (with_reducible repeat (first | apply bN | apply bD | apply bA)); refine blk_far ?_ NB349_371.out _; (with_reducible repeat (first | apply bN | apply bD | apply bA)); refine blk_far ?_ NB349_371.out _; (with_reducible repeat (first | apply bN | apply bD | apply bA)); refine blk_far ?_ NB349_371.out _; (with_reducible repeat (first | apply bN | apply bD | apply bA)); exact BK349.out) hb); have n1_ := mk0 (bB (g := gb350) (o := .cells #[.int .i64 t346, .int .i64 t347, .string t348] 34 (0, 0)) (by (with_reducible repeat (first | apply bN | apply bD | apply bA)); refine blk_far ?_ NB350_371.out _; (with_reducible repeat (first | apply bN | apply bD | apply bA)); refine blk_far ?_ NB350_371.out _; (with_reducible repeat (first | apply bN | apply bD | apply bA)); refine blk_far ?_ NB350_371.out _; (with_reducible repeat (first | apply bN | apply bD | apply bA)); exact BK350.out) hb); have n2_ := mk0 (bB (g := gb361) (o := .cells #[.int .i64 t357, .int .i64 t358, .string t359] 34 (0, 0)) (by (with_reducible repeat (first | apply bN | apply bD | apply bA)); refine blk_far ?_ NB361_371.out _; (with_reducible repeat (first | apply bN | apply bD | apply bA)); refine blk_far ?_ NB361_371.out _; (with_reducible repeat (first | apply bN | apply bD | apply bA)); refine blk_far ?_ NB361_371.out _; (with_reducible repeat (first | apply bN | apply bD | apply bA)); exact BK361.out) hb); have n3_ := mk0 (bB (g := gb366) (o := .cells #[.int .i64 t362, .int .i64 t363, .string t364] 34 (0, 0)) (by (with_reducible repeat (first | apply bN | apply bD | apply bA)); refine blk_far ?_ NB366_371.out _; (with_reducible repeat (first | apply bN | apply bD | apply bA)); refine blk_far ?_ NB366_371.out _; (with_reducible repeat (first | apply bN | apply bD | apply bA)); refine blk_far ?_ NB366_371.out _; (with_reducible repeat (first | apply bN | apply bD | apply bA)); exact BK366.out) hb); have n4_ := mk0 (bB (g := gb371) (o := .cells #[.int .i64 t367, .int .i64 t368, .string t369] 34 (0, 0)) (by (with_reducible repeat (first | apply bN | apply bD | apply bA)); refine blk_put (cs := #[.int .i64 t367, .int .i64 t368, .string (⟨#[]⟩ : ByteArray)]) ?_ 2 _ rfl; (with_reducible repeat (first | apply bN | apply bD | apply bA)); refine blk_put (cs := #[.int .i64 t367, .int .i64 0, .string (⟨#[]⟩ : ByteArray)]) ?_ 1 _ rfl; (with_reducible repeat (first | apply bN | apply bD | apply bA)); refine blk_put (cs := #[.int .i64 0, .int .i64 0, .string (⟨#[]⟩ : ByteArray)]) ?_ 0 _ rfl; (with_reducible repeat (first | apply bN | apply bD | apply bA)); exact BK371.out) hb); have n5_ := mk0 (below_step (by repeat (first | (with_reducible first | exact HB.out | apply wA | apply wN | apply wD | refine wS ?_ GE349.out | refine wS ?_ GE350.out | refine wS ?_ GE361.out | refine wS ?_ GE366.out | refine wS ?_ GE371.out) | exact HB.out)) hb); clear BK349; clear BK350; clear BK361; clear BK366; clear BK371; clear HB; have BK349 := n0_; have BK350 := n1_; have BK361 := n2_; have BK366 := n3_; have BK371 := n4_; have HB := n5_; clear n0_ n1_ n2_ n3_ n4_ n5_; (try clear hb); (try clear hb2); (try clear hk); (try clear hi)) | ((with_reducible refine gate_dst (N := 12) rfl ?_); refine box_event ?hg (N := 12) ?hd (cs := #[.int .i64 0, .int .i64 0, .string (⟨#[]⟩ : ByteArray)]) (t := 34) ?hr ?_; (case hd => rfl); (case hg => rfl); (case hr => first | (go_simp; done) | (go_simp; rfl)); intro gb376 hg w81 hbox hb; have n0_ := mk0 (bB (g := gb349) (o := .cells #[.int .i64 t343, .int .i64 t344, .string t345] 34 (0, 0)) (by (with_reducible repeat (first | apply bN | apply bD | apply bA)); exact BK349.out) hb); have n1_ := mk0 (bB (g := gb350) (o := .cells #[.int .i64 t346, .int .i64 t347, .string t348] 34 (0, 0)) (by (with_reducible repeat (first | apply bN | apply bD | apply bA)); exact BK350.out) hb); have n2_ := mk0 (bB (g := gb361) (o := .cells #[.int .i64 t357, .int .i64 t358, .string t359] 34 (0, 0)) (by (with_reducible repeat (first | apply bN | apply bD | apply bA)); exact BK361.out) hb); have n3_ := mk0 (bB (g := gb366) (o := .cells #[.int .i64 t362, .int .i64 t363, .string t364] 34 (0, 0)) (by (with_reducible repeat (first | apply bN | apply bD | apply bA)); exact BK366.out) hb); have n4_ := mk0 (bB (g := gb371) (o := .cells #[.int .i64 t367, .int .i64 t368, .string t369] 34 (0, 0)) (by (with_reducible repeat (first | apply bN | apply bD | apply bA)); exact BK371.out) hb); have n5_ := mk0 (below_step (by repeat (first | (with_reducible first | exact HB.out | apply wA | apply wN | apply wD | refine wS ?_ GE349.out | refine wS ?_ GE350.out | refine wS ?_ GE361.out | refine wS ?_ GE366.out | refine wS ?_ GE371.out) | exact HB.out)) hb); have n6_ := mk0 (hbox); have n7_ := mk0 ((by rw [hg]; exact (below_size (by repeat (first | (with_reducible first | exact HB.out | apply wA | apply wN | apply wD | refine wS ?_ GE349.out | refine wS ?_ GE350.out | refine wS ?_ GE361.out | refine wS ?_ GE366.out | refine wS ?_ GE371.out) | exact HB.out))) : w.heap.size ≤ gb376)); have n8_ := mk0 ((by rw [hg]; exact (below_size (by repeat (first | (with_reducible first | exact HB.out | apply wA | apply wN | apply wD | refine wS ?_ GE349.out | refine wS ?_ GE350.out | refine wS ?_ GE361.out | refine wS ?_ GE366.out | refine wS ?_ GE371.out) | exact HB.out))) : w.heap.size ≤ gb376)); have n9_ := mk0 ((by rw [hg]; exact Nat.ne_of_lt (blk_lt (g := gb349) (o := .cells #[.int .i64 t343, .int .i64 t344, .string t345] 34 (0, 0)) (by (with_reducible repeat (first | apply bN | apply bD | apply bA)); exact BK349.out)) : gb349 ≠ gb376)); have n10_ := mk0 ((by rw [hg]; exact Nat.ne_of_gt (blk_lt (g := gb349) (o := .cells #[.int .i64 t343, .int .i64 t344, .string t345] 34 (0, 0)) (by (with_reducible repeat (first | apply bN | apply bD | apply bA)); exact BK349.out)) : gb376 ≠ gb349)); have n11_ := mk0 ((by rw [hg]; exact Nat.ne_of_lt (blk_lt (g := gb350) (o := .cells #[.int .i64 t346, .int .i64 t347, .string t348] 34 (0, 0)) (by (with_reducible repeat (first | apply bN | apply bD | apply bA)); exact BK350.out)) : gb350 ≠ gb376)); have n12_ := mk0 ((by rw [hg]; exact Nat.ne_of_gt (blk_lt (g := gb350) (o := .cells #[.int .i64 t346, .int .i64 t347, .string t348] 34 (0, 0)) (by (with_reducible repeat (first | apply bN | apply bD | apply bA)); exact BK350.out)) : gb376 ≠ gb350)); have n13_ := mk0 ((by rw [hg]; exact Nat.ne_of_lt (blk_lt (g := gb361) (o := .cells #[.int .i64 t357, .int .i64 t358, .string t359] 34 (0, 0)) (by (with_reducible repeat (first | apply bN | apply bD | apply bA)); exact BK361.out)) : gb361 ≠ gb376)); have n14_ := mk0 ((by rw [hg]; exact Nat.ne_of_gt (blk_lt (g := gb361) (o := .cells #[.int .i64 t357, .int .i64 t358, .string t359] 34 (0, 0)) (by (with_reducible repeat (first | apply bN | apply bD | apply bA)); exact BK361.out)) : gb376 ≠ gb361)); have n15_ := mk0 ((by rw [hg]; exact Nat.ne_of_lt (blk_lt (g := gb366) (o := .cells #[.int .i64 t362, .int .i64 t363, .string t364] 34 (0, 0)) (by (with_reducible repeat (first | apply bN | apply bD | apply bA)); exact BK366.out)) : gb366 ≠ gb376)); have n16_ := mk0 ((by rw [hg]; exact Nat.ne_of_gt (blk_lt (g := gb366) (o := .cells #[.int .i64 t362, .int .i64 t363, .string t364] 34 (0, 0)) (by (with_reducible repeat (first | apply bN | apply bD | apply bA)); exact BK366.out)) : gb376 ≠ gb366)); have n17_ := mk0 ((by rw [hg]; exact Nat.ne_of_lt (blk_lt (g := gb371) (o := .cells #[.int .i64 t367, .int .i64 t368, .string t369] 34 (0, 0)) (by (with_reducible repeat (first | apply bN | apply bD | apply bA)); exact BK371.out)) : gb371 ≠ gb376)); have n18_ := mk0 ((by rw [hg]; exact Nat.ne_of_gt (blk_lt (g := gb371) (o := .cells #[.int .i64 t367, .int .i64 t368, .string t369] 34 (0, 0)) (by (with_reducible repeat (first | apply bN | apply bD | apply bA)); exact BK371.out)) : gb376 ≠ gb371)); clear BK349; clear BK350; clear BK361; clear BK366; clear BK371; clear HB; have BK349 := n0_; have BK350 := n1_; have BK361 := n2_; have BK366 := n3_; have BK371 := n4_; have HB := n5_; have BK376 := n6_; have GW376 := n7_; have GE376 := n8_; have NB349_376 := n9_; have NB376_349 := n10_; have NB350_376 := n11_; have NB376_350 := n12_; have NB361_376 := n13_; have NB376_361 := n14_; have NB366_376 := n15_; have NB376_366 := n16_; have NB371_376 := n17_; have NB376_371 := n18_; clear n0_ n1_ n2_ n3_ n4_ n5_ n6_ n7_ n8_ n9_ n10_ n11_ n12_ n13_ n14_ n15_ n16_ n17_ n18_; clear hb hbox hg; have hnb82 := NB376_349.out; have hnc82 := NB349_376.out; have hnb83 := NB376_350.out; have hnc83 := NB350_376.out; have hnb84 := NB376_361.out; have hnc84 := NB361_376.out; have hnb85 := NB376_366.out; have hnc85 := NB366_376.out; have hnb86 := NB376_371.out; have hnc86 := NB371_376.out; have hcz87_0 : w81.cell? ⟨gb376, 0, none⟩ = some (.int .i64 0) := (bC BK376.out 0).trans rfl; have hcz87_1 : w81.cell? ⟨gb376, 1, none⟩ = some (.int .i64 0) := (bC BK376.out 1).trans rfl; have hcz87_2 : w81.cell? ⟨gb376, 2, none⟩ = some (.string (⟨#[]⟩ : ByteArray)) := (bC BK376.out 2).trans rfl; have hfz87_0 := bF BK376.out 0; have hfz87_1 := bF BK376.out 1; have hfz87_2 := bF BK376.out 2))
  (try simp only [Act.put, List.setIfInBounds_toArray, List.set_cons_zero, List.set_cons_succ])
  go_cut [99] (fun v99 wc => ∃ (kq : Nat) (x99_52 : Bool), v99 = .bool x99_52 ∧ Aside0 (laws_FnBits.j1 kq l0 x99_52 t343 t344 t345 = some r) ∧ Aside0 (kq ≤ kj3) ∧ Aside0 (wc.heap[gb349]? = some (.cells #[.int .i64 t343, .int .i64 t344, .string t345] 34 (0, 0))) ∧ Aside0 (wc.heap[gb350]? = some (.cells #[.int .i64 t346, .int .i64 t347, .string t348] 34 (0, 0))) ∧ Aside0 (wc.heap[gb361]? = some (.cells #[.int .i64 t357, .int .i64 t358, .string t359] 34 (0, 0))) ∧ Aside0 (wc.heap[gb366]? = some (.cells #[.int .i64 t362, .int .i64 t363, .string t364] 34 (0, 0))) ∧ Aside0 (wc.heap[gb371]? = some (.cells #[.int .i64 t367, .int .i64 t368, .string t369] 34 (0, 0))) ∧ Aside0 (wc.heap[gb376]? = some (.cells #[.int .i64 t372, .int .i64 t373, .string t374] 34 (0, 0))) ∧ Aside0 (Below w.heap.size w wc))
  case first =>
    have H := HC53.out
    clear HC53
    by_cases c88 : t360.size + t365.size ≤ 9223372036854775807
    · rw [if_pos c88] at H
      have c88b0 := eq_true c88
      have c88b1 : decide (t360.size + t365.size ≤ 9223372036854775807) = true := decide_eq_true c88
      try have c88b2 : (9223372036854775807 < t360.size + t365.size) = False := eq_false (Nat.not_lt.2 c88)
      by_cases c89 : (t360 ++ t365).size + t370.size ≤ 9223372036854775807
      · rw [if_pos c89] at H
        have c89b0 := eq_true c89
        have c89b1 : decide ((t360 ++ t365).size + t370.size ≤ 9223372036854775807) = true := decide_eq_true c89
        try have c89b3 := (by have h_ := c89; simp only [ByteArray.size_append] at h_; exact eq_false (Nat.not_lt.2 h_) : (_ < _) = False)
        try have c89b2 : (9223372036854775807 < (t360 ++ t365).size + t370.size) = False := eq_false (Nat.not_lt.2 c89)
        by_cases c90 : ((t360 ++ t365) ++ t370).size + t375.size ≤ 9223372036854775807
        · rw [if_pos c90] at H
          have c90b0 := eq_true c90
          have c90b1 : decide (((t360 ++ t365) ++ t370).size + t375.size ≤ 9223372036854775807) = true := decide_eq_true c90
          try have c90b3 := (by have h_ := c90; simp only [ByteArray.size_append] at h_; exact eq_false (Nat.not_lt.2 h_) : (_ < _) = False)
          try have c90b2 : (9223372036854775807 < ((t360 ++ t365) ++ t370).size + t375.size) = False := eq_false (Nat.not_lt.2 c90)
          by_cases c91 : (((t360 ++ t365) ++ t370) ++ t375).toList = ([] : List UInt8)
          · rw [if_pos c91] at H
            have c91b0 : ((((t360 ++ t365) ++ t370) ++ t375).toList == ([] : List UInt8)) = true := beq_iff_eq.mpr c91
            (try (have c91b0m := c91b0; simp only [ByteArray.size_append, Int.natCast_add] at c91b0m))
            have c91b1 : ((((t360 ++ t365) ++ t370) ++ t375).toList != ([] : List UInt8)) = false := bne_eq_false_iff_eq.mpr c91
            (try (have c91b1m := c91b1; simp only [ByteArray.size_append, Int.natCast_add] at c91b1m))
            clear c91
            (first | rw [c91b0] | (simp only [i64_w, i32_w]; rw [c91b0]) | rw [c91b4] | rw [c91b3] | skip)
            have H' := mk0 H
            clear H
            have hnb92 := NB376_349.out
            have hnc92 := NB349_376.out
            have hnb93 := NB376_350.out
            have hnc93 := NB350_376.out
            have hnb94 := NB376_361.out
            have hnc94 := NB361_376.out
            have hnb95 := NB376_366.out
            have hnc95 := NB366_376.out
            have hnb96 := NB376_371.out
            have hnc96 := NB371_376.out
            have hcz97_0 : w81.cell? ⟨gb376, 0, none⟩ = some (.int .i64 0) := (bC BK376.out 0).trans rfl
            have hcz97_1 : w81.cell? ⟨gb376, 1, none⟩ = some (.int .i64 0) := (bC BK376.out 1).trans rfl
            have hcz97_2 : w81.cell? ⟨gb376, 2, none⟩ = some (.string (⟨#[]⟩ : ByteArray)) := (bC BK376.out 2).trans rfl
            have hfz97_0 := bF BK376.out 0
            have hfz97_1 := bF BK376.out 1
            have hfz97_2 := bF BK376.out 2
            have hnb98 := NB361_349.out
            have hnc98 := NB349_361.out
            have hnb99 := NB361_350.out
            have hnc99 := NB350_361.out
            have hnb100 := NB361_366.out
            have hnc100 := NB366_361.out
            have hnb101 := NB361_371.out
            have hnc101 := NB371_361.out
            have hcz102_0 : w81.cell? ⟨gb361, 0, none⟩ = some (.int .i64 t357) := (bC BK361.out 0).trans rfl
            have hcz102_1 : w81.cell? ⟨gb361, 1, none⟩ = some (.int .i64 t358) := (bC BK361.out 1).trans rfl
            have hcz102_2 : w81.cell? ⟨gb361, 2, none⟩ = some (.string t359) := (bC BK361.out 2).trans rfl
            have hfz102_0 := bF BK361.out 0
            have hfz102_1 := bF BK361.out 1
            have hfz102_2 := bF BK361.out 2
            go_wp2
            go_meet
            case rel => exact ⟨_, ((!(t372 == t357) || (!(t373 == t358) || (!(t374.toList == t359.toList))))), (by first | rfl | (simp; done) | (simp [*]; done)), H', ⟨by have := HJ3.out; first | omega | exact Nat.le_refl _⟩, ⟨by (with_reducible repeat (first | apply bN | apply bD | apply bA)); refine blk_far ?_ NB349_376.out _; (with_reducible repeat (first | apply bN | apply bD | apply bA)); refine blk_far ?_ NB349_376.out _; (with_reducible repeat (first | apply bN | apply bD | apply bA)); refine blk_far ?_ NB349_376.out _; (with_reducible repeat (first | apply bN | apply bD | apply bA)); exact BK349.out⟩, ⟨by (with_reducible repeat (first | apply bN | apply bD | apply bA)); refine blk_far ?_ NB350_376.out _; (with_reducible repeat (first | apply bN | apply bD | apply bA)); refine blk_far ?_ NB350_376.out _; (with_reducible repeat (first | apply bN | apply bD | apply bA)); refine blk_far ?_ NB350_376.out _; (with_reducible repeat (first | apply bN | apply bD | apply bA)); exact BK350.out⟩, ⟨by (with_reducible repeat (first | apply bN | apply bD | apply bA)); refine blk_far ?_ NB361_376.out _; (with_reducible repeat (first | apply bN | apply bD | apply bA)); refine blk_far ?_ NB361_376.out _; (with_reducible repeat (first | apply bN | apply bD | apply bA)); refine blk_far ?_ NB361_376.out _; (with_reducible repeat (first | apply bN | apply bD | apply bA)); exact BK361.out⟩, ⟨by (with_reducible repeat (first | apply bN | apply bD | apply bA)); refine blk_far ?_ NB366_376.out _; (with_reducible repeat (first | apply bN | apply bD | apply bA)); refine blk_far ?_ NB366_376.out _; (with_reducible repeat (first | apply bN | apply bD | apply bA)); refine blk_far ?_ NB366_376.out _; (with_reducible repeat (first | apply bN | apply bD | apply bA)); exact BK366.out⟩, ⟨by (with_reducible repeat (first | apply bN | apply bD | apply bA)); refine blk_far ?_ NB371_376.out _; (with_reducible repeat (first | apply bN | apply bD | apply bA)); refine blk_far ?_ NB371_376.out _; (with_reducible repeat (first | apply bN | apply bD | apply bA)); refine blk_far ?_ NB371_376.out _; (with_reducible repeat (first | apply bN | apply bD | apply bA)); exact BK371.out⟩, ⟨by (with_reducible repeat (first | apply bN | apply bD | apply bA)); refine blk_put (cs := #[.int .i64 t372, .int .i64 t373, .string (⟨#[]⟩ : ByteArray)]) ?_ 2 _ rfl; (with_reducible repeat (first | apply bN | apply bD | apply bA)); refine blk_put (cs := #[.int .i64 t372, .int .i64 0, .string (⟨#[]⟩ : ByteArray)]) ?_ 1 _ rfl; (with_reducible repeat (first | apply bN | apply bD | apply bA)); refine blk_put (cs := #[.int .i64 0, .int .i64 0, .string (⟨#[]⟩ : ByteArray)]) ?_ 0 _ rfl; (with_reducible repeat (first | apply bN | apply bD | apply bA)); exact BK376.out⟩, ⟨by repeat (first | (with_reducible first | exact HB.out | apply wA | apply wN | apply wD | refine wS ?_ GE349.out | refine wS ?_ GE350.out | refine wS ?_ GE361.out | refine wS ?_ GE366.out | refine wS ?_ GE371.out | refine wS ?_ GE376.out) | exact HB.out)⟩⟩
          rw [if_neg c91] at H
          have c91b0 : ((((t360 ++ t365) ++ t370) ++ t375).toList == ([] : List UInt8)) = false := beq_eq_false_iff_ne.mpr c91
          (try (have c91b0m := c91b0; simp only [ByteArray.size_append, Int.natCast_add] at c91b0m))
          have c91b1 : ((((t360 ++ t365) ++ t370) ++ t375).toList != ([] : List UInt8)) = true := bne_iff_ne.mpr c91
          (try (have c91b1m := c91b1; simp only [ByteArray.size_append, Int.natCast_add] at c91b1m))
          (first | rw [c91b0] | (simp only [i64_w, i32_w]; rw [c91b0]) | rw [c91b4] | rw [c91b3] | skip)
          have H' := mk0 H
          clear H
          go_wp2
          go_meet
          case rel => exact ⟨_, (true), (by first | rfl | (simp; done) | (simp [*]; done)), H', ⟨by have := HJ3.out; first | omega | exact Nat.le_refl _⟩, ⟨by (with_reducible repeat (first | apply bN | apply bD | apply bA)); refine blk_far ?_ NB349_376.out _; (with_reducible repeat (first | apply bN | apply bD | apply bA)); refine blk_far ?_ NB349_376.out _; (with_reducible repeat (first | apply bN | apply bD | apply bA)); refine blk_far ?_ NB349_376.out _; (with_reducible repeat (first | apply bN | apply bD | apply bA)); exact BK349.out⟩, ⟨by (with_reducible repeat (first | apply bN | apply bD | apply bA)); refine blk_far ?_ NB350_376.out _; (with_reducible repeat (first | apply bN | apply bD | apply bA)); refine blk_far ?_ NB350_376.out _; (with_reducible repeat (first | apply bN | apply bD | apply bA)); refine blk_far ?_ NB350_376.out _; (with_reducible repeat (first | apply bN | apply bD | apply bA)); exact BK350.out⟩, ⟨by (with_reducible repeat (first | apply bN | apply bD | apply bA)); refine blk_far ?_ NB361_376.out _; (with_reducible repeat (first | apply bN | apply bD | apply bA)); refine blk_far ?_ NB361_376.out _; (with_reducible repeat (first | apply bN | apply bD | apply bA)); refine blk_far ?_ NB361_376.out _; (with_reducible repeat (first | apply bN | apply bD | apply bA)); exact BK361.out⟩, ⟨by (with_reducible repeat (first | apply bN | apply bD | apply bA)); refine blk_far ?_ NB366_376.out _; (with_reducible repeat (first | apply bN | apply bD | apply bA)); refine blk_far ?_ NB366_376.out _; (with_reducible repeat (first | apply bN | apply bD | apply bA)); refine blk_far ?_ NB366_376.out _; (with_reducible repeat (first | apply bN | apply bD | apply bA)); exact BK366.out⟩, ⟨by (with_reducible repeat (first | apply bN | apply bD | apply bA)); refine blk_far ?_ NB371_376.out _; (with_reducible repeat (first | apply bN | apply bD | apply bA)); refine blk_far ?_ NB371_376.out _; (with_reducible repeat (first | apply bN | apply bD | apply bA)); refine blk_far ?_ NB371_376.out _; (with_reducible repeat (first | apply bN | apply bD | apply bA)); exact BK371.out⟩, ⟨by (with_reducible repeat (first | apply bN | apply bD | apply bA)); refine blk_put (cs := #[.int .i64 t372, .int .i64 t373, .string (⟨#[]⟩ : ByteArray)]) ?_ 2 _ rfl; (with_reducible repeat (first | apply bN | apply bD | apply bA)); refine blk_put (cs := #[.int .i64 t372, .int .i64 0, .string (⟨#[]⟩ : ByteArray)]) ?_ 1 _ rfl; (with_reducible repeat (first | apply bN | apply bD | apply bA)); refine blk_put (cs := #[.int .i64 0, .int .i64 0, .string (⟨#[]⟩ : ByteArray)]) ?_ 0 _ rfl; (with_reducible repeat (first | apply bN | apply bD | apply bA)); exact BK376.out⟩, ⟨by repeat (first | (with_reducible first | exact HB.out | apply wA | apply wN | apply wD | refine wS ?_ GE349.out | refine wS ?_ GE350.out | refine wS ?_ GE361.out | refine wS ?_ GE366.out | refine wS ?_ GE371.out | refine wS ?_ GE376.out) | exact HB.out)⟩⟩
        rw [if_neg c90] at H
        exact absurd H (by simp)
      rw [if_neg c89] at H
      exact absurd H (by simp)
    rw [if_neg c88] at H
    exact absurd H (by simp)
  clear HC53
  try clear c1
  try clear c2
  try clear c2b0
  try clear c2b1
  try clear p2
  try clear c3
  try clear c4
  try clear c5
  try clear c6
  try clear c7
  try clear c8
  try clear c9
  try clear c10
  try clear c12
  try clear c13
  try clear c14
  try clear c15
  try clear c15b0
  try clear c15b1
  try clear c16
  try clear c20
  try clear c22
  try clear c23
  try clear c30
  try clear c35
  try clear c38
  try clear c41
  try clear c41b0
  try clear c41b1
  try clear c41b2
  try clear c54
  try clear c55
  try clear c59
  try clear c60
  try clear c66
  try clear c67
  try clear c68
  try clear c74
  try clear c75
  try clear c76
  try clear c77
  try clear c82
  try clear c83
  try clear c84
  try clear c85
  try clear c86
  try clear c88
  try clear c88b0
  try clear c88b1
  try clear c88b2
  try clear c89
  try clear c89b0
  try clear c89b1
  try clear c89b2
  try clear c90
  try clear c90b0
  try clear c90b1
  try clear c90b2
  try clear c91
  try clear c91b0
  try clear c91b1
  try clear c92
  try clear c93
  try clear c94
  try clear c95
  try clear c96
  try clear c98
  try clear c99
  try clear c100
  try clear c101
  try clear hcz102_0
  try clear hcz102_1
  try clear hcz102_2
  try clear hcz10_0
  try clear hcz10_1
  try clear hcz10_2
  try clear hcz17_0
  try clear hcz17_1
  try clear hcz17_2
  try clear hcz19_0
  try clear hcz19_1
  try clear hcz19_2
  try clear hcz21_0
  try clear hcz21_1
  try clear hcz21_2
  try clear hcz22_0
  try clear hcz22_1
  try clear hcz22_2
  try clear hcz24_0
  try clear hcz24_1
  try clear hcz24_2
  try clear hcz26_0
  try clear hcz26_1
  try clear hcz26_2
  try clear hcz28_0
  try clear hcz28_1
  try clear hcz28_2
  try clear hcz29_0
  try clear hcz29_1
  try clear hcz29_2
  try clear hcz31_0
  try clear hcz31_1
  try clear hcz31_2
  try clear hcz33_0
  try clear hcz33_1
  try clear hcz33_2
  try clear hcz36_0
  try clear hcz36_1
  try clear hcz36_2
  try clear hcz55_0
  try clear hcz55_1
  try clear hcz55_2
  try clear hcz56_0
  try clear hcz56_1
  try clear hcz56_2
  try clear hcz61_0
  try clear hcz61_1
  try clear hcz61_2
  try clear hcz62_0
  try clear hcz62_1
  try clear hcz62_2
  try clear hcz63_0
  try clear hcz63_1
  try clear hcz63_2
  try clear hcz69_0
  try clear hcz69_1
  try clear hcz69_2
  try clear hcz70_0
  try clear hcz70_1
  try clear hcz70_2
  try clear hcz71_0
  try clear hcz71_1
  try clear hcz71_2
  try clear hcz78_0
  try clear hcz78_1
  try clear hcz78_2
  try clear hcz79_0
  try clear hcz79_1
  try clear hcz79_2
  try clear hcz87_0
  try clear hcz87_1
  try clear hcz87_2
  try clear hcz97_0
  try clear hcz97_1
  try clear hcz97_2
  try clear hcz9_0
  try clear hcz9_1
  try clear hcz9_2
  try clear hfz102_0
  try clear hfz102_1
  try clear hfz102_2
  try clear hfz10_0
  try clear hfz10_1
  try clear hfz10_2
  try clear hfz17_0
  try clear hfz17_1
  try clear hfz17_2
  try clear hfz19_0
  try clear hfz19_1
  try clear hfz19_2
  try clear hfz21_0
  try clear hfz21_1
  try clear hfz21_2
  try clear hfz22_0
  try clear hfz22_1
  try clear hfz22_2
  try clear hfz24_0
  try clear hfz24_1
  try clear hfz24_2
  try clear hfz26_0
  try clear hfz26_1
  try clear hfz26_2
  try clear hfz28_0
  try clear hfz28_1
  try clear hfz28_2
  try clear hfz29_0
  try clear hfz29_1
  try clear hfz29_2
  try clear hfz31_0
  try clear hfz31_1
  try clear hfz31_2
  try clear hfz33_0
  try clear hfz33_1
  try clear hfz33_2
  try clear hfz36_0
  try clear hfz36_1
  try clear hfz36_2
  try clear hfz55_0
  try clear hfz55_1
  try clear hfz55_2
  try clear hfz56_0
  try clear hfz56_1
  try clear hfz56_2
  try clear hfz61_0
  try clear hfz61_1
  try clear hfz61_2
  try clear hfz62_0
  try clear hfz62_1
  try clear hfz62_2
  try clear hfz63_0
  try clear hfz63_1
  try clear hfz63_2
  try clear hfz69_0
  try clear hfz69_1
  try clear hfz69_2
  try clear hfz70_0
  try clear hfz70_1
  try clear hfz70_2
  try clear hfz71_0
  try clear hfz71_1
  try clear hfz71_2
  try clear hfz78_0
  try clear hfz78_1
  try clear hfz78_2
  try clear hfz79_0
  try clear hfz79_1
  try clear hfz79_2
  try clear hfz87_0
  try clear hfz87_1
  try clear hfz87_2
  try clear hfz97_0
  try clear hfz97_1
  try clear hfz97_2
  try clear hfz9_0
  try clear hfz9_1
  try clear hfz9_2
  try clear p2
  obtain ⟨kq, x99_52, rfl, HA, HJ52, BK349, BK350, BK361, BK366, BK371, BK376, HB⟩ := hcut
  cases kq with
  | zero => exact absurd HA.out (by simp [laws_FnBits.j1])
  | succ kj52 =>
  have H := HA.out
  clear HA
  simp only [laws_FnBits.j1] at H
  by_cases c103 : x99_52 = true
  · subst c103
    have H1 : (some false) = some r := by rw [if_pos rfl] at H; exact H
    clear H
    have H := H1
    clear H1
    obtain rfl := Option.some.inj H
    exact absurd hrt (by decide)
  replace c103 := Bool.eq_false_iff.mpr c103
  subst c103
  have H1 : (laws_FnBits.l0 kj52 ((l0.length : Int) % 70) 17 t343 t344 t345) = some r := by rw [if_neg (show ¬ (false = true) by decide)] at H; exact H
  clear H
  have H := H1
  clear H1
  have H' := mk0 H
  clear H
  go_wp2
  go_loopg [15] kj52 (fun kq v15 w' => ∃ (x15_3 : Int), v15 = .int .i64 x15_3 ∧ Aside0 (laws_FnBits.l0 kq ((l0.length : Int) % 70) x15_3 t343 t344 t345 = some r) ∧ Aside0 (kq ≤ kj52) ∧ Aside0 (w'.heap[gb349]? = some (.cells #[.int .i64 t343, .int .i64 t344, .string t345] 34 (0, 0))) ∧ Aside0 (w'.heap[gb350]? = some (.cells #[.int .i64 t346, .int .i64 t347, .string t348] 34 (0, 0))) ∧ Aside0 (w'.heap[gb361]? = some (.cells #[.int .i64 t357, .int .i64 t358, .string t359] 34 (0, 0))) ∧ Aside0 (w'.heap[gb366]? = some (.cells #[.int .i64 t362, .int .i64 t363, .string t364] 34 (0, 0))) ∧ Aside0 (w'.heap[gb371]? = some (.cells #[.int .i64 t367, .int .i64 t368, .string t369] 34 (0, 0))) ∧ Aside0 (w'.heap[gb376]? = some (.cells #[.int .i64 t372, .int .i64 t373, .string t374] 34 (0, 0))) ∧ Aside0 (Below w.heap.size w w'))
  case atStart => exact ⟨(17), (by first | rfl | (simp; done) | (simp [*]; done)), H', ⟨Nat.le_refl _⟩, ⟨by (with_reducible repeat (first | apply bN | apply bD | apply bA)); exact BK349.out⟩, ⟨by (with_reducible repeat (first | apply bN | apply bD | apply bA)); exact BK350.out⟩, ⟨by (with_reducible repeat (first | apply bN | apply bD | apply bA)); exact BK361.out⟩, ⟨by (with_reducible repeat (first | apply bN | apply bD | apply bA)); exact BK366.out⟩, ⟨by (with_reducible repeat (first | apply bN | apply bD | apply bA)); exact BK371.out⟩, ⟨by (with_reducible repeat (first | apply bN | apply bD | apply bA)); exact BK376.out⟩, ⟨by repeat (first | (with_reducible first | exact HB.out | apply wA | apply wN | apply wD | refine wS ?_ GE349.out | refine wS ?_ GE350.out | refine wS ?_ GE361.out | refine wS ?_ GE366.out | refine wS ?_ GE371.out | refine wS ?_ GE376.out) | exact HB.out)⟩⟩
  clear H'
  try clear c1
  try clear c2
  try clear c2b0
  try clear c2b1
  try clear p2
  try clear c3
  try clear c4
  try clear c5
  try clear c6
  try clear c7
  try clear c8
  try clear c9
  try clear c10
  try clear c12
  try clear c13
  try clear c14
  try clear c15
  try clear c15b0
  try clear c15b1
  try clear c16
  try clear c20
  try clear c22
  try clear c23
  try clear c30
  try clear c35
  try clear c38
  try clear c41
  try clear c41b0
  try clear c41b1
  try clear c41b2
  try clear c54
  try clear c55
  try clear c59
  try clear c60
  try clear c66
  try clear c67
  try clear c68
  try clear c74
  try clear c75
  try clear c76
  try clear c77
  try clear c82
  try clear c83
  try clear c84
  try clear c85
  try clear c86
  try clear c88
  try clear c88b0
  try clear c88b1
  try clear c88b2
  try clear c89
  try clear c89b0
  try clear c89b1
  try clear c89b2
  try clear c90
  try clear c90b0
  try clear c90b1
  try clear c90b2
  try clear c91
  try clear c91b0
  try clear c91b1
  try clear c92
  try clear c93
  try clear c94
  try clear c95
  try clear c96
  try clear c98
  try clear c99
  try clear c100
  try clear c101
  try clear c103
  try clear hcz102_0
  try clear hcz102_1
  try clear hcz102_2
  try clear hcz10_0
  try clear hcz10_1
  try clear hcz10_2
  try clear hcz17_0
  try clear hcz17_1
  try clear hcz17_2
  try clear hcz19_0
  try clear hcz19_1
  try clear hcz19_2
  try clear hcz21_0
  try clear hcz21_1
  try clear hcz21_2
  try clear hcz22_0
  try clear hcz22_1
  try clear hcz22_2
  try clear hcz24_0
  try clear hcz24_1
  try clear hcz24_2
  try clear hcz26_0
  try clear hcz26_1
  try clear hcz26_2
  try clear hcz28_0
  try clear hcz28_1
  try clear hcz28_2
  try clear hcz29_0
  try clear hcz29_1
  try clear hcz29_2
  try clear hcz31_0
  try clear hcz31_1
  try clear hcz31_2
  try clear hcz33_0
  try clear hcz33_1
  try clear hcz33_2
  try clear hcz36_0
  try clear hcz36_1
  try clear hcz36_2
  try clear hcz55_0
  try clear hcz55_1
  try clear hcz55_2
  try clear hcz56_0
  try clear hcz56_1
  try clear hcz56_2
  try clear hcz61_0
  try clear hcz61_1
  try clear hcz61_2
  try clear hcz62_0
  try clear hcz62_1
  try clear hcz62_2
  try clear hcz63_0
  try clear hcz63_1
  try clear hcz63_2
  try clear hcz69_0
  try clear hcz69_1
  try clear hcz69_2
  try clear hcz70_0
  try clear hcz70_1
  try clear hcz70_2
  try clear hcz71_0
  try clear hcz71_1
  try clear hcz71_2
  try clear hcz78_0
  try clear hcz78_1
  try clear hcz78_2
  try clear hcz79_0
  try clear hcz79_1
  try clear hcz79_2
  try clear hcz87_0
  try clear hcz87_1
  try clear hcz87_2
  try clear hcz97_0
  try clear hcz97_1
  try clear hcz97_2
  try clear hcz9_0
  try clear hcz9_1
  try clear hcz9_2
  try clear hfz102_0
  try clear hfz102_1
  try clear hfz102_2
  try clear hfz10_0
  try clear hfz10_1
  try clear hfz10_2
  try clear hfz17_0
  try clear hfz17_1
  try clear hfz17_2
  try clear hfz19_0
  try clear hfz19_1
  try clear hfz19_2
  try clear hfz21_0
  try clear hfz21_1
  try clear hfz21_2
  try clear hfz22_0
  try clear hfz22_1
  try clear hfz22_2
  try clear hfz24_0
  try clear hfz24_1
  try clear hfz24_2
  try clear hfz26_0
  try clear hfz26_1
  try clear hfz26_2
  try clear hfz28_0
  try clear hfz28_1
  try clear hfz28_2
  try clear hfz29_0
  try clear hfz29_1
  try clear hfz29_2
  try clear hfz31_0
  try clear hfz31_1
  try clear hfz31_2
  try clear hfz33_0
  try clear hfz33_1
  try clear hfz33_2
  try clear hfz36_0
  try clear hfz36_1
  try clear hfz36_2
  try clear hfz55_0
  try clear hfz55_1
  try clear hfz55_2
  try clear hfz56_0
  try clear hfz56_1
  try clear hfz56_2
  try clear hfz61_0
  try clear hfz61_1
  try clear hfz61_2
  try clear hfz62_0
  try clear hfz62_1
  try clear hfz62_2
  try clear hfz63_0
  try clear hfz63_1
  try clear hfz63_2
  try clear hfz69_0
  try clear hfz69_1
  try clear hfz69_2
  try clear hfz70_0
  try clear hfz70_1
  try clear hfz70_2
  try clear hfz71_0
  try clear hfz71_1
  try clear hfz71_2
  try clear hfz78_0
  try clear hfz78_1
  try clear hfz78_2
  try clear hfz79_0
  try clear hfz79_1
  try clear hfz79_2
  try clear hfz87_0
  try clear hfz87_1
  try clear hfz87_2
  try clear hfz97_0
  try clear hfz97_1
  try clear hfz97_2
  try clear hfz9_0
  try clear hfz9_1
  try clear hfz9_2
  try clear p2
  obtain ⟨x15_3, rfl, HA, HK3, BK349, BK350, BK361, BK366, BK371, BK376, HB⟩ := hrel
  cases gk with
  | zero => exact absurd HA.out (by simp [laws_FnBits.l0])
  | succ k3 =>
  have H := HA.out
  clear HA
  simp only [laws_FnBits.l0] at H
  by_cases c104 : x15_3 ≤ 18
  · rw [if_pos c104] at H
    have c104b0 : decide (x15_3 ≤ 18) = true := decide_eq_true c104
    clear c104
    replace H := Option.bind_eq_some_iff.mp H
    obtain ⟨⟨t377, t378, t379, t380⟩, A1050, H⟩ := H
    replace H : ((impl_Binary.f k3 x15_3 t377 t378 t379 t343 1 (⟨#[]⟩ : ByteArray)).bind fun bt382 => ((impl_Binary.f k3 x15_3 t343 t344 t345 t343 (wrap64 (((l0.length : Int) % 70) + 1)) (⟨#[]⟩ : ByteArray)).bind fun bt387 => (if t380.size + bt382.2.2.2.size ≤ 9223372036854775807 then (if (t380 ++ bt382.2.2.2).size + bt387.2.2.2.size ≤ 9223372036854775807 then (if ((t380 ++ bt382.2.2.2) ++ bt387.2.2.2).toList = ([] : List UInt8) then (if (!(bt382.1 == bt387.1) || (!(bt382.2.1 == bt387.2.1) || (!(bt382.2.2.1.toList == bt387.2.2.1.toList)))) = true then (some false) else (laws_FnBits.l0 k3 ((l0.length : Int) % 70) (wrap64 (x15_3 + 1)) t343 t344 t345)) else (some false)) else (none)) else (none)))) = some r := H
    have A105 := mk0 A1050
    clear A1050
    replace H := Option.bind_eq_some_iff.mp H
    obtain ⟨⟨t382, t383, t384, t385⟩, A1060, H⟩ := H
    replace H : ((impl_Binary.f k3 x15_3 t343 t344 t345 t343 (wrap64 (((l0.length : Int) % 70) + 1)) (⟨#[]⟩ : ByteArray)).bind fun bt387 => (if t380.size + t385.size ≤ 9223372036854775807 then (if (t380 ++ t385).size + bt387.2.2.2.size ≤ 9223372036854775807 then (if ((t380 ++ t385) ++ bt387.2.2.2).toList = ([] : List UInt8) then (if (!(t382 == bt387.1) || (!(t383 == bt387.2.1) || (!(t384.toList == bt387.2.2.1.toList)))) = true then (some false) else (laws_FnBits.l0 k3 ((l0.length : Int) % 70) (wrap64 (x15_3 + 1)) t343 t344 t345)) else (some false)) else (none)) else (none))) = some r := H
    have A106 := mk0 A1060
    clear A1060
    replace H := Option.bind_eq_some_iff.mp H
    obtain ⟨⟨t387, t388, t389, t390⟩, A1070, H⟩ := H
    replace H : (if t380.size + t385.size ≤ 9223372036854775807 then (if (t380 ++ t385).size + t390.size ≤ 9223372036854775807 then (if ((t380 ++ t385) ++ t390).toList = ([] : List UInt8) then (if (!(t382 == t387) || (!(t383 == t388) || (!(t384.toList == t389.toList)))) = true then (some false) else (laws_FnBits.l0 k3 ((l0.length : Int) % 70) (wrap64 (x15_3 + 1)) t343 t344 t345)) else (some false)) else (none)) else (none)) = some r := H
    have A107 := mk0 A1070
    clear A1070
    by_cases c108 : t380.size + t385.size ≤ 9223372036854775807
    · rw [if_pos c108] at H
      have c108b0 := eq_true c108
      have c108b1 : decide (t380.size + t385.size ≤ 9223372036854775807) = true := decide_eq_true c108
      try have c108b2 : (9223372036854775807 < t380.size + t385.size) = False := eq_false (Nat.not_lt.2 c108)
      by_cases c109 : (t380 ++ t385).size + t390.size ≤ 9223372036854775807
      · rw [if_pos c109] at H
        have c109b0 := eq_true c109
        have c109b1 : decide ((t380 ++ t385).size + t390.size ≤ 9223372036854775807) = true := decide_eq_true c109
        try have c109b3 := (by have h_ := c109; simp only [ByteArray.size_append] at h_; exact eq_false (Nat.not_lt.2 h_) : (_ < _) = False)
        try have c109b2 : (9223372036854775807 < (t380 ++ t385).size + t390.size) = False := eq_false (Nat.not_lt.2 c109)
        by_cases c110 : ((t380 ++ t385) ++ t390).toList = ([] : List UInt8)
        · rw [if_pos c110] at H
          have c110b0 : (((t380 ++ t385) ++ t390).toList == ([] : List UInt8)) = true := beq_iff_eq.mpr c110
          (try (have c110b0m := c110b0; simp only [ByteArray.size_append, Int.natCast_add] at c110b0m))
          have c110b1 : (((t380 ++ t385) ++ t390).toList != ([] : List UInt8)) = false := bne_eq_false_iff_eq.mpr c110
          (try (have c110b1m := c110b1; simp only [ByteArray.size_append, Int.natCast_add] at c110b1m))
          clear c110
          by_cases c111 : (!(t382 == t387) || (!(t383 == t388) || (!(t384.toList == t389.toList)))) = true
          · rw [if_pos c111] at H
            have c111b0 : (!(t382 == t387) || (!(t383 == t388) || (!(t384.toList == t389.toList)))) = true := c111
            clear c111
            obtain rfl := Option.some.inj H
            exact absurd hrt (by decide)
          rw [if_neg c111] at H
          have c111b0 : (!(t382 == t387) || (!(t383 == t388) || (!(t384.toList == t389.toList)))) = false := by simpa using c111
          clear c111
          have H' := mk0 H
          clear H
          have hnb112 := NB349_350.out
          have hnc112 := NB350_349.out
          have hnb113 := NB349_361.out
          have hnc113 := NB361_349.out
          have hnb114 := NB349_366.out
          have hnc114 := NB366_349.out
          have hnb115 := NB349_371.out
          have hnc115 := NB371_349.out
          have hnb116 := NB349_376.out
          have hnc116 := NB376_349.out
          have hcz117_0 : wr.cell? ⟨gb349, 0, none⟩ = some (.int .i64 t343) := (bC BK349.out 0).trans rfl
          have hcz117_1 : wr.cell? ⟨gb349, 1, none⟩ = some (.int .i64 t344) := (bC BK349.out 1).trans rfl
          have hcz117_2 : wr.cell? ⟨gb349, 2, none⟩ = some (.string t345) := (bC BK349.out 2).trans rfl
          have hfz117_0 := bF BK349.out 0
          have hfz117_1 := bF BK349.out 1
          have hfz117_2 := bF BK349.out 2
          go_wp2_with (first | ((with_reducible refine gate_callee (f := 55) rfl ?_); refine goesL_ (some 114) rfl rfl Try.func55 (by kernel_rfl) rfl #[.int .i64 x15_3, .agg #[.int .i64 t343, .int .i64 t344, .string t345], .agg #[.int .i64 t343, .int .i64 ((l0.length : Int) % 70), .string (⟨#[]⟩ : ByteArray)]] rfl (by (try simp only [List.map_toArray, List.map_cons, List.map_nil]); first | done | rfl | (simp only [List.length_drop, List.length_take]; rfl)) ?_; (with_reducible refine (impl_Binary.calls k3 x15_3 t343 t344 t345 t343 ((l0.length : Int) % 70) (⟨#[]⟩ : ByteArray) t377 t378 t379 t380 _ A105.out).mono ?_); rintro e w118 ⟨rfl, hb⟩; refine ⟨_, rfl, ?_⟩; have n0_ := mk0 (bB (g := gb349) (o := .cells #[.int .i64 t343, .int .i64 t344, .string t345] 34 (0, 0)) (by (with_reducible repeat (first | apply bN | apply bD | apply bA)); exact BK349.out) hb); have n1_ := mk0 (bB (g := gb350) (o := .cells #[.int .i64 t346, .int .i64 t347, .string t348] 34 (0, 0)) (by (with_reducible repeat (first | apply bN | apply bD | apply bA)); exact BK350.out) hb); have n2_ := mk0 (bB (g := gb361) (o := .cells #[.int .i64 t357, .int .i64 t358, .string t359] 34 (0, 0)) (by (with_reducible repeat (first | apply bN | apply bD | apply bA)); exact BK361.out) hb); have n3_ := mk0 (bB (g := gb366) (o := .cells #[.int .i64 t362, .int .i64 t363, .string t364] 34 (0, 0)) (by (with_reducible repeat (first | apply bN | apply bD | apply bA)); exact BK366.out) hb); have n4_ := mk0 (bB (g := gb371) (o := .cells #[.int .i64 t367, .int .i64 t368, .string t369] 34 (0, 0)) (by (with_reducible repeat (first | apply bN | apply bD | apply bA)); exact BK371.out) hb); have n5_ := mk0 (bB (g := gb376) (o := .cells #[.int .i64 t372, .int .i64 t373, .string t374] 34 (0, 0)) (by (with_reducible repeat (first | apply bN | apply bD | apply bA)); exact BK376.out) hb); have n6_ := mk0 (below_step (by repeat (first | (with_reducible first | exact HB.out | apply wA | apply wN | apply wD | refine wS ?_ GE349.out | refine wS ?_ GE350.out | refine wS ?_ GE361.out | refine wS ?_ GE366.out | refine wS ?_ GE371.out | refine wS ?_ GE376.out) | exact HB.out)) hb); clear BK349; clear BK350; clear BK361; clear BK366; clear BK371; clear BK376; clear HB; have BK349 := n0_; have BK350 := n1_; have BK361 := n2_; have BK366 := n3_; have BK371 := n4_; have BK376 := n5_; have HB := n6_; clear n0_ n1_ n2_ n3_ n4_ n5_ n6_; (try clear hb); (try clear hb2); (try clear hk); (try clear hi)) | ((with_reducible refine gate_dst (N := 16) rfl ?_); refine box_event ?hg (N := 16) ?hd (cs := #[.int .i64 0, .int .i64 0, .string (⟨#[]⟩ : ByteArray)]) (t := 34) ?hr ?_; (case hd => rfl); (case hg => rfl); (case hr => first | (go_simp; done) | (go_simp; rfl)); intro gb381 hg w119 hbox hb; have n0_ := mk0 (bB (g := gb349) (o := .cells #[.int .i64 t343, .int .i64 t344, .string t345] 34 (0, 0)) (by (with_reducible repeat (first | apply bN | apply bD | apply bA)); exact BK349.out) hb); have n1_ := mk0 (bB (g := gb350) (o := .cells #[.int .i64 t346, .int .i64 t347, .string t348] 34 (0, 0)) (by (with_reducible repeat (first | apply bN | apply bD | apply bA)); exact BK350.out) hb); have n2_ := mk0 (bB (g := gb361) (o := .cells #[.int .i64 t357, .int .i64 t358, .string t359] 34 (0, 0)) (by (with_reducible repeat (first | apply bN | apply bD | apply bA)); exact BK361.out) hb); have n3_ := mk0 (bB (g := gb366) (o := .cells #[.int .i64 t362, .int .i64 t363, .string t364] 34 (0, 0)) (by (with_reducible repeat (first | apply bN | apply bD | apply bA)); exact BK366.out) hb); have n4_ := mk0 (bB (g := gb371) (o := .cells #[.int .i64 t367, .int .i64 t368, .string t369] 34 (0, 0)) (by (with_reducible repeat (first | apply bN | apply bD | apply bA)); exact BK371.out) hb); have n5_ := mk0 (bB (g := gb376) (o := .cells #[.int .i64 t372, .int .i64 t373, .string t374] 34 (0, 0)) (by (with_reducible repeat (first | apply bN | apply bD | apply bA)); exact BK376.out) hb); have n6_ := mk0 (below_step (by repeat (first | (with_reducible first | exact HB.out | apply wA | apply wN | apply wD | refine wS ?_ GE349.out | refine wS ?_ GE350.out | refine wS ?_ GE361.out | refine wS ?_ GE366.out | refine wS ?_ GE371.out | refine wS ?_ GE376.out) | exact HB.out)) hb); have n7_ := mk0 (hbox); have n8_ := mk0 ((by rw [hg]; exact (below_size (by repeat (first | (with_reducible first | exact HB.out | apply wA | apply wN | apply wD | refine wS ?_ GE349.out | refine wS ?_ GE350.out | refine wS ?_ GE361.out | refine wS ?_ GE366.out | refine wS ?_ GE371.out | refine wS ?_ GE376.out) | exact HB.out))) : w.heap.size ≤ gb381)); have n9_ := mk0 ((by rw [hg]; exact (below_size (by repeat (first | (with_reducible first | exact HB.out | apply wA | apply wN | apply wD | refine wS ?_ GE349.out | refine wS ?_ GE350.out | refine wS ?_ GE361.out | refine wS ?_ GE366.out | refine wS ?_ GE371.out | refine wS ?_ GE376.out) | exact HB.out))) : w.heap.size ≤ gb381)); have n10_ := mk0 ((by rw [hg]; exact Nat.ne_of_lt (blk_lt (g := gb349) (o := .cells #[.int .i64 t343, .int .i64 t344, .string t345] 34 (0, 0)) (by (with_reducible repeat (first | apply bN | apply bD | apply bA)); exact BK349.out)) : gb349 ≠ gb381)); have n11_ := mk0 ((by rw [hg]; exact Nat.ne_of_gt (blk_lt (g := gb349) (o := .cells #[.int .i64 t343, .int .i64 t344, .string t345] 34 (0, 0)) (by (with_reducible repeat (first | apply bN | apply bD | apply bA)); exact BK349.out)) : gb381 ≠ gb349)); have n12_ := mk0 ((by rw [hg]; exact Nat.ne_of_lt (blk_lt (g := gb350) (o := .cells #[.int .i64 t346, .int .i64 t347, .string t348] 34 (0, 0)) (by (with_reducible repeat (first | apply bN | apply bD | apply bA)); exact BK350.out)) : gb350 ≠ gb381)); have n13_ := mk0 ((by rw [hg]; exact Nat.ne_of_gt (blk_lt (g := gb350) (o := .cells #[.int .i64 t346, .int .i64 t347, .string t348] 34 (0, 0)) (by (with_reducible repeat (first | apply bN | apply bD | apply bA)); exact BK350.out)) : gb381 ≠ gb350)); have n14_ := mk0 ((by rw [hg]; exact Nat.ne_of_lt (blk_lt (g := gb361) (o := .cells #[.int .i64 t357, .int .i64 t358, .string t359] 34 (0, 0)) (by (with_reducible repeat (first | apply bN | apply bD | apply bA)); exact BK361.out)) : gb361 ≠ gb381)); have n15_ := mk0 ((by rw [hg]; exact Nat.ne_of_gt (blk_lt (g := gb361) (o := .cells #[.int .i64 t357, .int .i64 t358, .string t359] 34 (0, 0)) (by (with_reducible repeat (first | apply bN | apply bD | apply bA)); exact BK361.out)) : gb381 ≠ gb361)); have n16_ := mk0 ((by rw [hg]; exact Nat.ne_of_lt (blk_lt (g := gb366) (o := .cells #[.int .i64 t362, .int .i64 t363, .string t364] 34 (0, 0)) (by (with_reducible repeat (first | apply bN | apply bD | apply bA)); exact BK366.out)) : gb366 ≠ gb381)); have n17_ := mk0 ((by rw [hg]; exact Nat.ne_of_gt (blk_lt (g := gb366) (o := .cells #[.int .i64 t362, .int .i64 t363, .string t364] 34 (0, 0)) (by (with_reducible repeat (first | apply bN | apply bD | apply bA)); exact BK366.out)) : gb381 ≠ gb366)); have n18_ := mk0 ((by rw [hg]; exact Nat.ne_of_lt (blk_lt (g := gb371) (o := .cells #[.int .i64 t367, .int .i64 t368, .string t369] 34 (0, 0)) (by (with_reducible repeat (first | apply bN | apply bD | apply bA)); exact BK371.out)) : gb371 ≠ gb381)); have n19_ := mk0 ((by rw [hg]; exact Nat.ne_of_gt (blk_lt (g := gb371) (o := .cells #[.int .i64 t367, .int .i64 t368, .string t369] 34 (0, 0)) (by (with_reducible repeat (first | apply bN | apply bD | apply bA)); exact BK371.out)) : gb381 ≠ gb371)); have n20_ := mk0 ((by rw [hg]; exact Nat.ne_of_lt (blk_lt (g := gb376) (o := .cells #[.int .i64 t372, .int .i64 t373, .string t374] 34 (0, 0)) (by (with_reducible repeat (first | apply bN | apply bD | apply bA)); exact BK376.out)) : gb376 ≠ gb381)); have n21_ := mk0 ((by rw [hg]; exact Nat.ne_of_gt (blk_lt (g := gb376) (o := .cells #[.int .i64 t372, .int .i64 t373, .string t374] 34 (0, 0)) (by (with_reducible repeat (first | apply bN | apply bD | apply bA)); exact BK376.out)) : gb381 ≠ gb376)); clear BK349; clear BK350; clear BK361; clear BK366; clear BK371; clear BK376; clear HB; have BK349 := n0_; have BK350 := n1_; have BK361 := n2_; have BK366 := n3_; have BK371 := n4_; have BK376 := n5_; have HB := n6_; have BK381 := n7_; have GW381 := n8_; have GE381 := n9_; have NB349_381 := n10_; have NB381_349 := n11_; have NB350_381 := n12_; have NB381_350 := n13_; have NB361_381 := n14_; have NB381_361 := n15_; have NB366_381 := n16_; have NB381_366 := n17_; have NB371_381 := n18_; have NB381_371 := n19_; have NB376_381 := n20_; have NB381_376 := n21_; clear n0_ n1_ n2_ n3_ n4_ n5_ n6_ n7_ n8_ n9_ n10_ n11_ n12_ n13_ n14_ n15_ n16_ n17_ n18_ n19_ n20_ n21_; clear hb hbox hg; have hnb120 := NB381_349.out; have hnc120 := NB349_381.out; have hnb121 := NB381_350.out; have hnc121 := NB350_381.out; have hnb122 := NB381_361.out; have hnc122 := NB361_381.out; have hnb123 := NB381_366.out; have hnc123 := NB366_381.out; have hnb124 := NB381_371.out; have hnc124 := NB371_381.out; have hnb125 := NB381_376.out; have hnc125 := NB376_381.out; have hcz126_0 : w119.cell? ⟨gb381, 0, none⟩ = some (.int .i64 0) := (bC BK381.out 0).trans rfl; have hcz126_1 : w119.cell? ⟨gb381, 1, none⟩ = some (.int .i64 0) := (bC BK381.out 1).trans rfl; have hcz126_2 : w119.cell? ⟨gb381, 2, none⟩ = some (.string (⟨#[]⟩ : ByteArray)) := (bC BK381.out 2).trans rfl; have hfz126_0 := bF BK381.out 0; have hfz126_1 := bF BK381.out 1; have hfz126_2 := bF BK381.out 2; have hcz127_0 : w119.cell? ⟨gb349, 0, none⟩ = some (.int .i64 t343) := (bC BK349.out 0).trans rfl; have hcz127_1 : w119.cell? ⟨gb349, 1, none⟩ = some (.int .i64 t344) := (bC BK349.out 1).trans rfl; have hcz127_2 : w119.cell? ⟨gb349, 2, none⟩ = some (.string t345) := (bC BK349.out 2).trans rfl; have hfz127_0 := bF BK349.out 0; have hfz127_1 := bF BK349.out 1; have hfz127_2 := bF BK349.out 2) | ((with_reducible refine gate_callee (f := 55) rfl ?_); refine goesL_ (some 123) rfl rfl Try.func55 (by kernel_rfl) rfl #[.int .i64 x15_3, .agg #[.int .i64 t377, .int .i64 t378, .string t379], .agg #[.int .i64 t343, .int .i64 1, .string (⟨#[]⟩ : ByteArray)]] rfl (by (try simp only [List.map_toArray, List.map_cons, List.map_nil]); first | done | rfl | (simp only [List.length_drop, List.length_take]; rfl)) ?_; (with_reducible refine (impl_Binary.calls k3 x15_3 t377 t378 t379 t343 1 (⟨#[]⟩ : ByteArray) t382 t383 t384 t385 _ A106.out).mono ?_); rintro e w128 ⟨rfl, hb⟩; refine ⟨_, rfl, ?_⟩; have n0_ := mk0 (bB (g := gb349) (o := .cells #[.int .i64 t343, .int .i64 t344, .string t345] 34 (0, 0)) (by (with_reducible repeat (first | apply bN | apply bD | apply bA)); refine blk_far ?_ NB349_381.out _; (with_reducible repeat (first | apply bN | apply bD | apply bA)); refine blk_far ?_ NB349_381.out _; (with_reducible repeat (first | apply bN | apply bD | apply bA)); refine blk_far ?_ NB349_381.out _; (with_reducible repeat (first | apply bN | apply bD | apply bA)); exact BK349.out) hb); have n1_ := mk0 (bB (g := gb350) (o := .cells #[.int .i64 t346, .int .i64 t347, .string t348] 34 (0, 0)) (by (with_reducible repeat (first | apply bN | apply bD | apply bA)); refine blk_far ?_ NB350_381.out _; (with_reducible repeat (first | apply bN | apply bD | apply bA)); refine blk_far ?_ NB350_381.out _; (with_reducible repeat (first | apply bN | apply bD | apply bA)); refine blk_far ?_ NB350_381.out _; (with_reducible repeat (first | apply bN | apply bD | apply bA)); exact BK350.out) hb); have n2_ := mk0 (bB (g := gb361) (o := .cells #[.int .i64 t357, .int .i64 t358, .string t359] 34 (0, 0)) (by (with_reducible repeat (first | apply bN | apply bD | apply bA)); refine blk_far ?_ NB361_381.out _; (with_reducible repeat (first | apply bN | apply bD | apply bA)); refine blk_far ?_ NB361_381.out _; (with_reducible repeat (first | apply bN | apply bD | apply bA)); refine blk_far ?_ NB361_381.out _; (with_reducible repeat (first | apply bN | apply bD | apply bA)); exact BK361.out) hb); have n3_ := mk0 (bB (g := gb366) (o := .cells #[.int .i64 t362, .int .i64 t363, .string t364] 34 (0, 0)) (by (with_reducible repeat (first | apply bN | apply bD | apply bA)); refine blk_far ?_ NB366_381.out _; (with_reducible repeat (first | apply bN | apply bD | apply bA)); refine blk_far ?_ NB366_381.out _; (with_reducible repeat (first | apply bN | apply bD | apply bA)); refine blk_far ?_ NB366_381.out _; (with_reducible repeat (first | apply bN | apply bD | apply bA)); exact BK366.out) hb); have n4_ := mk0 (bB (g := gb371) (o := .cells #[.int .i64 t367, .int .i64 t368, .string t369] 34 (0, 0)) (by (with_reducible repeat (first | apply bN | apply bD | apply bA)); refine blk_far ?_ NB371_381.out _; (with_reducible repeat (first | apply bN | apply bD | apply bA)); refine blk_far ?_ NB371_381.out _; (with_reducible repeat (first | apply bN | apply bD | apply bA)); refine blk_far ?_ NB371_381.out _; (with_reducible repeat (first | apply bN | apply bD | apply bA)); exact BK371.out) hb); have n5_ := mk0 (bB (g := gb376) (o := .cells #[.int .i64 t372, .int .i64 t373, .string t374] 34 (0, 0)) (by (with_reducible repeat (first | apply bN | apply bD | apply bA)); refine blk_far ?_ NB376_381.out _; (with_reducible repeat (first | apply bN | apply bD | apply bA)); refine blk_far ?_ NB376_381.out _; (with_reducible repeat (first | apply bN | apply bD | apply bA)); refine blk_far ?_ NB376_381.out _; (with_reducible repeat (first | apply bN | apply bD | apply bA)); exact BK376.out) hb); have n6_ := mk0 (bB (g := gb381) (o := .cells #[.int .i64 t377, .int .i64 t378, .string t379] 34 (0, 0)) (by (with_reducible repeat (first | apply bN | apply bD | apply bA)); refine blk_put (cs := #[.int .i64 t377, .int .i64 t378, .string (⟨#[]⟩ : ByteArray)]) ?_ 2 _ rfl; (with_reducible repeat (first | apply bN | apply bD | apply bA)); refine blk_put (cs := #[.int .i64 t377, .int .i64 0, .string (⟨#[]⟩ : ByteArray)]) ?_ 1 _ rfl; (with_reducible repeat (first | apply bN | apply bD | apply bA)); refine blk_put (cs := #[.int .i64 0, .int .i64 0, .string (⟨#[]⟩ : ByteArray)]) ?_ 0 _ rfl; (with_reducible repeat (first | apply bN | apply bD | apply bA)); exact BK381.out) hb); have n7_ := mk0 (below_step (by repeat (first | (with_reducible first | exact HB.out | apply wA | apply wN | apply wD | refine wS ?_ GE349.out | refine wS ?_ GE350.out | refine wS ?_ GE361.out | refine wS ?_ GE366.out | refine wS ?_ GE371.out | refine wS ?_ GE376.out | refine wS ?_ GE381.out) | exact HB.out)) hb); clear BK349; clear BK350; clear BK361; clear BK366; clear BK371; clear BK376; clear BK381; clear HB; have BK349 := n0_; have BK350 := n1_; have BK361 := n2_; have BK366 := n3_; have BK371 := n4_; have BK376 := n5_; have BK381 := n6_; have HB := n7_; clear n0_ n1_ n2_ n3_ n4_ n5_ n6_ n7_; (try clear hb); (try clear hb2); (try clear hk); (try clear hi)) | ((with_reducible refine gate_dst (N := 18) rfl ?_); refine box_event ?hg (N := 18) ?hd (cs := #[.int .i64 0, .int .i64 0, .string (⟨#[]⟩ : ByteArray)]) (t := 34) ?hr ?_; (case hd => rfl); (case hg => rfl); (case hr => first | (go_simp; done) | (go_simp; rfl)); intro gb386 hg w129 hbox hb; have n0_ := mk0 (bB (g := gb349) (o := .cells #[.int .i64 t343, .int .i64 t344, .string t345] 34 (0, 0)) (by (with_reducible repeat (first | apply bN | apply bD | apply bA)); exact BK349.out) hb); have n1_ := mk0 (bB (g := gb350) (o := .cells #[.int .i64 t346, .int .i64 t347, .string t348] 34 (0, 0)) (by (with_reducible repeat (first | apply bN | apply bD | apply bA)); exact BK350.out) hb); have n2_ := mk0 (bB (g := gb361) (o := .cells #[.int .i64 t357, .int .i64 t358, .string t359] 34 (0, 0)) (by (with_reducible repeat (first | apply bN | apply bD | apply bA)); exact BK361.out) hb); have n3_ := mk0 (bB (g := gb366) (o := .cells #[.int .i64 t362, .int .i64 t363, .string t364] 34 (0, 0)) (by (with_reducible repeat (first | apply bN | apply bD | apply bA)); exact BK366.out) hb); have n4_ := mk0 (bB (g := gb371) (o := .cells #[.int .i64 t367, .int .i64 t368, .string t369] 34 (0, 0)) (by (with_reducible repeat (first | apply bN | apply bD | apply bA)); exact BK371.out) hb); have n5_ := mk0 (bB (g := gb376) (o := .cells #[.int .i64 t372, .int .i64 t373, .string t374] 34 (0, 0)) (by (with_reducible repeat (first | apply bN | apply bD | apply bA)); exact BK376.out) hb); have n6_ := mk0 (bB (g := gb381) (o := .cells #[.int .i64 t377, .int .i64 t378, .string t379] 34 (0, 0)) (by (with_reducible repeat (first | apply bN | apply bD | apply bA)); exact BK381.out) hb); have n7_ := mk0 (below_step (by repeat (first | (with_reducible first | exact HB.out | apply wA | apply wN | apply wD | refine wS ?_ GE349.out | refine wS ?_ GE350.out | refine wS ?_ GE361.out | refine wS ?_ GE366.out | refine wS ?_ GE371.out | refine wS ?_ GE376.out | refine wS ?_ GE381.out) | exact HB.out)) hb); have n8_ := mk0 (hbox); have n9_ := mk0 ((by rw [hg]; exact (below_size (by repeat (first | (with_reducible first | exact HB.out | apply wA | apply wN | apply wD | refine wS ?_ GE349.out | refine wS ?_ GE350.out | refine wS ?_ GE361.out | refine wS ?_ GE366.out | refine wS ?_ GE371.out | refine wS ?_ GE376.out | refine wS ?_ GE381.out) | exact HB.out))) : w.heap.size ≤ gb386)); have n10_ := mk0 ((by rw [hg]; exact (below_size (by repeat (first | (with_reducible first | exact HB.out | apply wA | apply wN | apply wD | refine wS ?_ GE349.out | refine wS ?_ GE350.out | refine wS ?_ GE361.out | refine wS ?_ GE366.out | refine wS ?_ GE371.out | refine wS ?_ GE376.out | refine wS ?_ GE381.out) | exact HB.out))) : w.heap.size ≤ gb386)); have n11_ := mk0 ((by rw [hg]; exact Nat.ne_of_lt (blk_lt (g := gb349) (o := .cells #[.int .i64 t343, .int .i64 t344, .string t345] 34 (0, 0)) (by (with_reducible repeat (first | apply bN | apply bD | apply bA)); exact BK349.out)) : gb349 ≠ gb386)); have n12_ := mk0 ((by rw [hg]; exact Nat.ne_of_gt (blk_lt (g := gb349) (o := .cells #[.int .i64 t343, .int .i64 t344, .string t345] 34 (0, 0)) (by (with_reducible repeat (first | apply bN | apply bD | apply bA)); exact BK349.out)) : gb386 ≠ gb349)); have n13_ := mk0 ((by rw [hg]; exact Nat.ne_of_lt (blk_lt (g := gb350) (o := .cells #[.int .i64 t346, .int .i64 t347, .string t348] 34 (0, 0)) (by (with_reducible repeat (first | apply bN | apply bD | apply bA)); exact BK350.out)) : gb350 ≠ gb386)); have n14_ := mk0 ((by rw [hg]; exact Nat.ne_of_gt (blk_lt (g := gb350) (o := .cells #[.int .i64 t346, .int .i64 t347, .string t348] 34 (0, 0)) (by (with_reducible repeat (first | apply bN | apply bD | apply bA)); exact BK350.out)) : gb386 ≠ gb350)); have n15_ := mk0 ((by rw [hg]; exact Nat.ne_of_lt (blk_lt (g := gb361) (o := .cells #[.int .i64 t357, .int .i64 t358, .string t359] 34 (0, 0)) (by (with_reducible repeat (first | apply bN | apply bD | apply bA)); exact BK361.out)) : gb361 ≠ gb386)); have n16_ := mk0 ((by rw [hg]; exact Nat.ne_of_gt (blk_lt (g := gb361) (o := .cells #[.int .i64 t357, .int .i64 t358, .string t359] 34 (0, 0)) (by (with_reducible repeat (first | apply bN | apply bD | apply bA)); exact BK361.out)) : gb386 ≠ gb361)); have n17_ := mk0 ((by rw [hg]; exact Nat.ne_of_lt (blk_lt (g := gb366) (o := .cells #[.int .i64 t362, .int .i64 t363, .string t364] 34 (0, 0)) (by (with_reducible repeat (first | apply bN | apply bD | apply bA)); exact BK366.out)) : gb366 ≠ gb386)); have n18_ := mk0 ((by rw [hg]; exact Nat.ne_of_gt (blk_lt (g := gb366) (o := .cells #[.int .i64 t362, .int .i64 t363, .string t364] 34 (0, 0)) (by (with_reducible repeat (first | apply bN | apply bD | apply bA)); exact BK366.out)) : gb386 ≠ gb366)); have n19_ := mk0 ((by rw [hg]; exact Nat.ne_of_lt (blk_lt (g := gb371) (o := .cells #[.int .i64 t367, .int .i64 t368, .string t369] 34 (0, 0)) (by (with_reducible repeat (first | apply bN | apply bD | apply bA)); exact BK371.out)) : gb371 ≠ gb386)); have n20_ := mk0 ((by rw [hg]; exact Nat.ne_of_gt (blk_lt (g := gb371) (o := .cells #[.int .i64 t367, .int .i64 t368, .string t369] 34 (0, 0)) (by (with_reducible repeat (first | apply bN | apply bD | apply bA)); exact BK371.out)) : gb386 ≠ gb371)); have n21_ := mk0 ((by rw [hg]; exact Nat.ne_of_lt (blk_lt (g := gb376) (o := .cells #[.int .i64 t372, .int .i64 t373, .string t374] 34 (0, 0)) (by (with_reducible repeat (first | apply bN | apply bD | apply bA)); exact BK376.out)) : gb376 ≠ gb386)); have n22_ := mk0 ((by rw [hg]; exact Nat.ne_of_gt (blk_lt (g := gb376) (o := .cells #[.int .i64 t372, .int .i64 t373, .string t374] 34 (0, 0)) (by (with_reducible repeat (first | apply bN | apply bD | apply bA)); exact BK376.out)) : gb386 ≠ gb376)); have n23_ := mk0 ((by rw [hg]; exact Nat.ne_of_lt (blk_lt (g := gb381) (o := .cells #[.int .i64 t377, .int .i64 t378, .string t379] 34 (0, 0)) (by (with_reducible repeat (first | apply bN | apply bD | apply bA)); exact BK381.out)) : gb381 ≠ gb386)); have n24_ := mk0 ((by rw [hg]; exact Nat.ne_of_gt (blk_lt (g := gb381) (o := .cells #[.int .i64 t377, .int .i64 t378, .string t379] 34 (0, 0)) (by (with_reducible repeat (first | apply bN | apply bD | apply bA)); exact BK381.out)) : gb386 ≠ gb381)); clear BK349; clear BK350; clear BK361; clear BK366; clear BK371; clear BK376; clear BK381; clear HB; have BK349 := n0_; have BK350 := n1_; have BK361 := n2_; have BK366 := n3_; have BK371 := n4_; have BK376 := n5_; have BK381 := n6_; have HB := n7_; have BK386 := n8_; have GW386 := n9_; have GE386 := n10_; have NB349_386 := n11_; have NB386_349 := n12_; have NB350_386 := n13_; have NB386_350 := n14_; have NB361_386 := n15_; have NB386_361 := n16_; have NB366_386 := n17_; have NB386_366 := n18_; have NB371_386 := n19_; have NB386_371 := n20_; have NB376_386 := n21_; have NB386_376 := n22_; have NB381_386 := n23_; have NB386_381 := n24_; clear n0_ n1_ n2_ n3_ n4_ n5_ n6_ n7_ n8_ n9_ n10_ n11_ n12_ n13_ n14_ n15_ n16_ n17_ n18_ n19_ n20_ n21_ n22_ n23_ n24_; clear hb hbox hg; have hnb130 := NB386_349.out; have hnc130 := NB349_386.out; have hnb131 := NB386_350.out; have hnc131 := NB350_386.out; have hnb132 := NB386_361.out; have hnc132 := NB361_386.out; have hnb133 := NB386_366.out; have hnc133 := NB366_386.out; have hnb134 := NB386_371.out; have hnc134 := NB371_386.out; have hnb135 := NB386_376.out; have hnc135 := NB376_386.out; have hnb136 := NB386_381.out; have hnc136 := NB381_386.out; have hcz137_0 : w129.cell? ⟨gb386, 0, none⟩ = some (.int .i64 0) := (bC BK386.out 0).trans rfl; have hcz137_1 : w129.cell? ⟨gb386, 1, none⟩ = some (.int .i64 0) := (bC BK386.out 1).trans rfl; have hcz137_2 : w129.cell? ⟨gb386, 2, none⟩ = some (.string (⟨#[]⟩ : ByteArray)) := (bC BK386.out 2).trans rfl; have hfz137_0 := bF BK386.out 0; have hfz137_1 := bF BK386.out 1; have hfz137_2 := bF BK386.out 2; have hcz138_0 : w129.cell? ⟨gb349, 0, none⟩ = some (.int .i64 t343) := (bC BK349.out 0).trans rfl; have hcz138_1 : w129.cell? ⟨gb349, 1, none⟩ = some (.int .i64 t344) := (bC BK349.out 1).trans rfl; have hcz138_2 : w129.cell? ⟨gb349, 2, none⟩ = some (.string t345) := (bC BK349.out 2).trans rfl; have hfz138_0 := bF BK349.out 0; have hfz138_1 := bF BK349.out 1; have hfz138_2 := bF BK349.out 2) | ((with_reducible refine gate_callee (f := 55) rfl ?_); refine goesL_ (some 134) rfl rfl Try.func55 (by kernel_rfl) rfl #[.int .i64 x15_3, .agg #[.int .i64 t343, .int .i64 t344, .string t345], .agg #[.int .i64 t343, .int .i64 (((l0.length : Int) % 70) + 1), .string (⟨#[]⟩ : ByteArray)]] rfl (by (try simp only [List.map_toArray, List.map_cons, List.map_nil]); first | done | rfl | (simp only [List.length_drop, List.length_take]; rfl)) ?_; (with_reducible refine (impl_Binary.calls k3 x15_3 t343 t344 t345 t343 (((l0.length : Int) % 70) + 1) (⟨#[]⟩ : ByteArray) t387 t388 t389 t390 _ (by have z := A107.out; rwa [show wrap64 (((l0.length : Int) % 70) + 1) = ((l0.length : Int) % 70) + 1 from by unfold wrap64; omega] at z)).mono ?_); rintro e w139 ⟨rfl, hb⟩; refine ⟨_, rfl, ?_⟩; have n0_ := mk0 (bB (g := gb349) (o := .cells #[.int .i64 t343, .int .i64 t344, .string t345] 34 (0, 0)) (by (with_reducible repeat (first | apply bN | apply bD | apply bA)); refine blk_far ?_ NB349_386.out _; (with_reducible repeat (first | apply bN | apply bD | apply bA)); refine blk_far ?_ NB349_386.out _; (with_reducible repeat (first | apply bN | apply bD | apply bA)); refine blk_far ?_ NB349_386.out _; (with_reducible repeat (first | apply bN | apply bD | apply bA)); exact BK349.out) hb); have n1_ := mk0 (bB (g := gb350) (o := .cells #[.int .i64 t346, .int .i64 t347, .string t348] 34 (0, 0)) (by (with_reducible repeat (first | apply bN | apply bD | apply bA)); refine blk_far ?_ NB350_386.out _; (with_reducible repeat (first | apply bN | apply bD | apply bA)); refine blk_far ?_ NB350_386.out _; (with_reducible repeat (first | apply bN | apply bD | apply bA)); refine blk_far ?_ NB350_386.out _; (with_reducible repeat (first | apply bN | apply bD | apply bA)); exact BK350.out) hb); have n2_ := mk0 (bB (g := gb361) (o := .cells #[.int .i64 t357, .int .i64 t358, .string t359] 34 (0, 0)) (by (with_reducible repeat (first | apply bN | apply bD | apply bA)); refine blk_far ?_ NB361_386.out _; (with_reducible repeat (first | apply bN | apply bD | apply bA)); refine blk_far ?_ NB361_386.out _; (with_reducible repeat (first | apply bN | apply bD | apply bA)); refine blk_far ?_ NB361_386.out _; (with_reducible repeat (first | apply bN | apply bD | apply bA)); exact BK361.out) hb); have n3_ := mk0 (bB (g := gb366) (o := .cells #[.int .i64 t362, .int .i64 t363, .string t364] 34 (0, 0)) (by (with_reducible repeat (first | apply bN | apply bD | apply bA)); refine blk_far ?_ NB366_386.out _; (with_reducible repeat (first | apply bN | apply bD | apply bA)); refine blk_far ?_ NB366_386.out _; (with_reducible repeat (first | apply bN | apply bD | apply bA)); refine blk_far ?_ NB366_386.out _; (with_reducible repeat (first | apply bN | apply bD | apply bA)); exact BK366.out) hb); have n4_ := mk0 (bB (g := gb371) (o := .cells #[.int .i64 t367, .int .i64 t368, .string t369] 34 (0, 0)) (by (with_reducible repeat (first | apply bN | apply bD | apply bA)); refine blk_far ?_ NB371_386.out _; (with_reducible repeat (first | apply bN | apply bD | apply bA)); refine blk_far ?_ NB371_386.out _; (with_reducible repeat (first | apply bN | apply bD | apply bA)); refine blk_far ?_ NB371_386.out _; (with_reducible repeat (first | apply bN | apply bD | apply bA)); exact BK371.out) hb); have n5_ := mk0 (bB (g := gb376) (o := .cells #[.int .i64 t372, .int .i64 t373, .string t374] 34 (0, 0)) (by (with_reducible repeat (first | apply bN | apply bD | apply bA)); refine blk_far ?_ NB376_386.out _; (with_reducible repeat (first | apply bN | apply bD | apply bA)); refine blk_far ?_ NB376_386.out _; (with_reducible repeat (first | apply bN | apply bD | apply bA)); refine blk_far ?_ NB376_386.out _; (with_reducible repeat (first | apply bN | apply bD | apply bA)); exact BK376.out) hb); have n6_ := mk0 (bB (g := gb381) (o := .cells #[.int .i64 t377, .int .i64 t378, .string t379] 34 (0, 0)) (by (with_reducible repeat (first | apply bN | apply bD | apply bA)); refine blk_far ?_ NB381_386.out _; (with_reducible repeat (first | apply bN | apply bD | apply bA)); refine blk_far ?_ NB381_386.out _; (with_reducible repeat (first | apply bN | apply bD | apply bA)); refine blk_far ?_ NB381_386.out _; (with_reducible repeat (first | apply bN | apply bD | apply bA)); exact BK381.out) hb); have n7_ := mk0 (bB (g := gb386) (o := .cells #[.int .i64 t382, .int .i64 t383, .string t384] 34 (0, 0)) (by (with_reducible repeat (first | apply bN | apply bD | apply bA)); refine blk_put (cs := #[.int .i64 t382, .int .i64 t383, .string (⟨#[]⟩ : ByteArray)]) ?_ 2 _ rfl; (with_reducible repeat (first | apply bN | apply bD | apply bA)); refine blk_put (cs := #[.int .i64 t382, .int .i64 0, .string (⟨#[]⟩ : ByteArray)]) ?_ 1 _ rfl; (with_reducible repeat (first | apply bN | apply bD | apply bA)); refine blk_put (cs := #[.int .i64 0, .int .i64 0, .string (⟨#[]⟩ : ByteArray)]) ?_ 0 _ rfl; (with_reducible repeat (first | apply bN | apply bD | apply bA)); exact BK386.out) hb); have n8_ := mk0 (below_step (by repeat (first | (with_reducible first | exact HB.out | apply wA | apply wN | apply wD | refine wS ?_ GE349.out | refine wS ?_ GE350.out | refine wS ?_ GE361.out | refine wS ?_ GE366.out | refine wS ?_ GE371.out | refine wS ?_ GE376.out | refine wS ?_ GE381.out | refine wS ?_ GE386.out) | exact HB.out)) hb); clear BK349; clear BK350; clear BK361; clear BK366; clear BK371; clear BK376; clear BK381; clear BK386; clear HB; have BK349 := n0_; have BK350 := n1_; have BK361 := n2_; have BK366 := n3_; have BK371 := n4_; have BK376 := n5_; have BK381 := n6_; have BK386 := n7_; have HB := n8_; clear n0_ n1_ n2_ n3_ n4_ n5_ n6_ n7_ n8_; (try clear hb); (try clear hb2); (try clear hk); (try clear hi)) | ((with_reducible refine gate_dst (N := 20) rfl ?_); refine box_event ?hg (N := 20) ?hd (cs := #[.int .i64 0, .int .i64 0, .string (⟨#[]⟩ : ByteArray)]) (t := 34) ?hr ?_; (case hd => rfl); (case hg => rfl); (case hr => first | (go_simp; done) | (go_simp; rfl)); intro gb391 hg w140 hbox hb; have n0_ := mk0 (bB (g := gb349) (o := .cells #[.int .i64 t343, .int .i64 t344, .string t345] 34 (0, 0)) (by (with_reducible repeat (first | apply bN | apply bD | apply bA)); exact BK349.out) hb); have n1_ := mk0 (bB (g := gb350) (o := .cells #[.int .i64 t346, .int .i64 t347, .string t348] 34 (0, 0)) (by (with_reducible repeat (first | apply bN | apply bD | apply bA)); exact BK350.out) hb); have n2_ := mk0 (bB (g := gb361) (o := .cells #[.int .i64 t357, .int .i64 t358, .string t359] 34 (0, 0)) (by (with_reducible repeat (first | apply bN | apply bD | apply bA)); exact BK361.out) hb); have n3_ := mk0 (bB (g := gb366) (o := .cells #[.int .i64 t362, .int .i64 t363, .string t364] 34 (0, 0)) (by (with_reducible repeat (first | apply bN | apply bD | apply bA)); exact BK366.out) hb); have n4_ := mk0 (bB (g := gb371) (o := .cells #[.int .i64 t367, .int .i64 t368, .string t369] 34 (0, 0)) (by (with_reducible repeat (first | apply bN | apply bD | apply bA)); exact BK371.out) hb); have n5_ := mk0 (bB (g := gb376) (o := .cells #[.int .i64 t372, .int .i64 t373, .string t374] 34 (0, 0)) (by (with_reducible repeat (first | apply bN | apply bD | apply bA)); exact BK376.out) hb); have n6_ := mk0 (bB (g := gb381) (o := .cells #[.int .i64 t377, .int .i64 t378, .string t379] 34 (0, 0)) (by (with_reducible repeat (first | apply bN | apply bD | apply bA)); exact BK381.out) hb); have n7_ := mk0 (bB (g := gb386) (o := .cells #[.int .i64 t382, .int .i64 t383, .string t384] 34 (0, 0)) (by (with_reducible repeat (first | apply bN | apply bD | apply bA)); exact BK386.out) hb); have n8_ := mk0 (below_step (by repeat (first | (with_reducible first | exact HB.out | apply wA | apply wN | apply wD | refine wS ?_ GE349.out | refine wS ?_ GE350.out | refine wS ?_ GE361.out | refine wS ?_ GE366.out | refine wS ?_ GE371.out | refine wS ?_ GE376.out | refine wS ?_ GE381.out | refine wS ?_ GE386.out) | exact HB.out)) hb); have n9_ := mk0 (hbox); have n10_ := mk0 ((by rw [hg]; exact (below_size (by repeat (first | (with_reducible first | exact HB.out | apply wA | apply wN | apply wD | refine wS ?_ GE349.out | refine wS ?_ GE350.out | refine wS ?_ GE361.out | refine wS ?_ GE366.out | refine wS ?_ GE371.out | refine wS ?_ GE376.out | refine wS ?_ GE381.out | refine wS ?_ GE386.out) | exact HB.out))) : w.heap.size ≤ gb391)); have n11_ := mk0 ((by rw [hg]; exact (below_size (by repeat (first | (with_reducible first | exact HB.out | apply wA | apply wN | apply wD | refine wS ?_ GE349.out | refine wS ?_ GE350.out | refine wS ?_ GE361.out | refine wS ?_ GE366.out | refine wS ?_ GE371.out | refine wS ?_ GE376.out | refine wS ?_ GE381.out | refine wS ?_ GE386.out) | exact HB.out))) : w.heap.size ≤ gb391)); have n12_ := mk0 ((by rw [hg]; exact Nat.ne_of_lt (blk_lt (g := gb349) (o := .cells #[.int .i64 t343, .int .i64 t344, .string t345] 34 (0, 0)) (by (with_reducible repeat (first | apply bN | apply bD | apply bA)); exact BK349.out)) : gb349 ≠ gb391)); have n13_ := mk0 ((by rw [hg]; exact Nat.ne_of_gt (blk_lt (g := gb349) (o := .cells #[.int .i64 t343, .int .i64 t344, .string t345] 34 (0, 0)) (by (with_reducible repeat (first | apply bN | apply bD | apply bA)); exact BK349.out)) : gb391 ≠ gb349)); have n14_ := mk0 ((by rw [hg]; exact Nat.ne_of_lt (blk_lt (g := gb350) (o := .cells #[.int .i64 t346, .int .i64 t347, .string t348] 34 (0, 0)) (by (with_reducible repeat (first | apply bN | apply bD | apply bA)); exact BK350.out)) : gb350 ≠ gb391)); have n15_ := mk0 ((by rw [hg]; exact Nat.ne_of_gt (blk_lt (g := gb350) (o := .cells #[.int .i64 t346, .int .i64 t347, .string t348] 34 (0, 0)) (by (with_reducible repeat (first | apply bN | apply bD | apply bA)); exact BK350.out)) : gb391 ≠ gb350)); have n16_ := mk0 ((by rw [hg]; exact Nat.ne_of_lt (blk_lt (g := gb361) (o := .cells #[.int .i64 t357, .int .i64 t358, .string t359] 34 (0, 0)) (by (with_reducible repeat (first | apply bN | apply bD | apply bA)); exact BK361.out)) : gb361 ≠ gb391)); have n17_ := mk0 ((by rw [hg]; exact Nat.ne_of_gt (blk_lt (g := gb361) (o := .cells #[.int .i64 t357, .int .i64 t358, .string t359] 34 (0, 0)) (by (with_reducible repeat (first | apply bN | apply bD | apply bA)); exact BK361.out)) : gb391 ≠ gb361)); have n18_ := mk0 ((by rw [hg]; exact Nat.ne_of_lt (blk_lt (g := gb366) (o := .cells #[.int .i64 t362, .int .i64 t363, .string t364] 34 (0, 0)) (by (with_reducible repeat (first | apply bN | apply bD | apply bA)); exact BK366.out)) : gb366 ≠ gb391)); have n19_ := mk0 ((by rw [hg]; exact Nat.ne_of_gt (blk_lt (g := gb366) (o := .cells #[.int .i64 t362, .int .i64 t363, .string t364] 34 (0, 0)) (by (with_reducible repeat (first | apply bN | apply bD | apply bA)); exact BK366.out)) : gb391 ≠ gb366)); have n20_ := mk0 ((by rw [hg]; exact Nat.ne_of_lt (blk_lt (g := gb371) (o := .cells #[.int .i64 t367, .int .i64 t368, .string t369] 34 (0, 0)) (by (with_reducible repeat (first | apply bN | apply bD | apply bA)); exact BK371.out)) : gb371 ≠ gb391)); have n21_ := mk0 ((by rw [hg]; exact Nat.ne_of_gt (blk_lt (g := gb371) (o := .cells #[.int .i64 t367, .int .i64 t368, .string t369] 34 (0, 0)) (by (with_reducible repeat (first | apply bN | apply bD | apply bA)); exact BK371.out)) : gb391 ≠ gb371)); have n22_ := mk0 ((by rw [hg]; exact Nat.ne_of_lt (blk_lt (g := gb376) (o := .cells #[.int .i64 t372, .int .i64 t373, .string t374] 34 (0, 0)) (by (with_reducible repeat (first | apply bN | apply bD | apply bA)); exact BK376.out)) : gb376 ≠ gb391)); have n23_ := mk0 ((by rw [hg]; exact Nat.ne_of_gt (blk_lt (g := gb376) (o := .cells #[.int .i64 t372, .int .i64 t373, .string t374] 34 (0, 0)) (by (with_reducible repeat (first | apply bN | apply bD | apply bA)); exact BK376.out)) : gb391 ≠ gb376)); have n24_ := mk0 ((by rw [hg]; exact Nat.ne_of_lt (blk_lt (g := gb381) (o := .cells #[.int .i64 t377, .int .i64 t378, .string t379] 34 (0, 0)) (by (with_reducible repeat (first | apply bN | apply bD | apply bA)); exact BK381.out)) : gb381 ≠ gb391)); have n25_ := mk0 ((by rw [hg]; exact Nat.ne_of_gt (blk_lt (g := gb381) (o := .cells #[.int .i64 t377, .int .i64 t378, .string t379] 34 (0, 0)) (by (with_reducible repeat (first | apply bN | apply bD | apply bA)); exact BK381.out)) : gb391 ≠ gb381)); have n26_ := mk0 ((by rw [hg]; exact Nat.ne_of_lt (blk_lt (g := gb386) (o := .cells #[.int .i64 t382, .int .i64 t383, .string t384] 34 (0, 0)) (by (with_reducible repeat (first | apply bN | apply bD | apply bA)); exact BK386.out)) : gb386 ≠ gb391)); have n27_ := mk0 ((by rw [hg]; exact Nat.ne_of_gt (blk_lt (g := gb386) (o := .cells #[.int .i64 t382, .int .i64 t383, .string t384] 34 (0, 0)) (by (with_reducible repeat (first | apply bN | apply bD | apply bA)); exact BK386.out)) : gb391 ≠ gb386)); clear BK349; clear BK350; clear BK361; clear BK366; clear BK371; clear BK376; clear BK381; clear BK386; clear HB; have BK349 := n0_; have BK350 := n1_; have BK361 := n2_; have BK366 := n3_; have BK371 := n4_; have BK376 := n5_; have BK381 := n6_; have BK386 := n7_; have HB := n8_; have BK391 := n9_; have GW391 := n10_; have GE391 := n11_; have NB349_391 := n12_; have NB391_349 := n13_; have NB350_391 := n14_; have NB391_350 := n15_; have NB361_391 := n16_; have NB391_361 := n17_; have NB366_391 := n18_; have NB391_366 := n19_; have NB371_391 := n20_; have NB391_371 := n21_; have NB376_391 := n22_; have NB391_376 := n23_; have NB381_391 := n24_; have NB391_381 := n25_; have NB386_391 := n26_; have NB391_386 := n27_; clear n0_ n1_ n2_ n3_ n4_ n5_ n6_ n7_ n8_ n9_ n10_ n11_ n12_ n13_ n14_ n15_ n16_ n17_ n18_ n19_ n20_ n21_ n22_ n23_ n24_ n25_ n26_ n27_; clear hb hbox hg; have hnb141 := NB391_349.out; have hnc141 := NB349_391.out; have hnb142 := NB391_350.out; have hnc142 := NB350_391.out; have hnb143 := NB391_361.out; have hnc143 := NB361_391.out; have hnb144 := NB391_366.out; have hnc144 := NB366_391.out; have hnb145 := NB391_371.out; have hnc145 := NB371_391.out; have hnb146 := NB391_376.out; have hnc146 := NB376_391.out; have hnb147 := NB391_381.out; have hnc147 := NB381_391.out; have hnb148 := NB391_386.out; have hnc148 := NB386_391.out; have hcz149_0 : w140.cell? ⟨gb391, 0, none⟩ = some (.int .i64 0) := (bC BK391.out 0).trans rfl; have hcz149_1 : w140.cell? ⟨gb391, 1, none⟩ = some (.int .i64 0) := (bC BK391.out 1).trans rfl; have hcz149_2 : w140.cell? ⟨gb391, 2, none⟩ = some (.string (⟨#[]⟩ : ByteArray)) := (bC BK391.out 2).trans rfl; have hfz149_0 := bF BK391.out 0; have hfz149_1 := bF BK391.out 1; have hfz149_2 := bF BK391.out 2; have hcz150_0 : w140.cell? ⟨gb386, 0, none⟩ = some (.int .i64 t382) := (bC BK386.out 0).trans rfl; have hcz150_1 : w140.cell? ⟨gb386, 1, none⟩ = some (.int .i64 t383) := (bC BK386.out 1).trans rfl; have hcz150_2 : w140.cell? ⟨gb386, 2, none⟩ = some (.string t384) := (bC BK386.out 2).trans rfl; have hfz150_0 := bF BK386.out 0; have hfz150_1 := bF BK386.out 1; have hfz150_2 := bF BK386.out 2))
          go_roundg k3
          case measure => have := HJ3.out; have := HJ52.out; have := HK3.out; omega
          case rel => exact ⟨(wrap64 (x15_3 + 1)), (by first | rfl | (simp; done) | (simp [*]; done)), H', ⟨by have := HJ3.out; have := HJ52.out; have := HK3.out; omega⟩, ⟨by (with_reducible repeat (first | apply bN | apply bD | apply bA)); refine blk_far ?_ NB349_391.out _; (with_reducible repeat (first | apply bN | apply bD | apply bA)); refine blk_far ?_ NB349_391.out _; (with_reducible repeat (first | apply bN | apply bD | apply bA)); refine blk_far ?_ NB349_391.out _; (with_reducible repeat (first | apply bN | apply bD | apply bA)); exact BK349.out⟩, ⟨by (with_reducible repeat (first | apply bN | apply bD | apply bA)); refine blk_far ?_ NB350_391.out _; (with_reducible repeat (first | apply bN | apply bD | apply bA)); refine blk_far ?_ NB350_391.out _; (with_reducible repeat (first | apply bN | apply bD | apply bA)); refine blk_far ?_ NB350_391.out _; (with_reducible repeat (first | apply bN | apply bD | apply bA)); exact BK350.out⟩, ⟨by (with_reducible repeat (first | apply bN | apply bD | apply bA)); refine blk_far ?_ NB361_391.out _; (with_reducible repeat (first | apply bN | apply bD | apply bA)); refine blk_far ?_ NB361_391.out _; (with_reducible repeat (first | apply bN | apply bD | apply bA)); refine blk_far ?_ NB361_391.out _; (with_reducible repeat (first | apply bN | apply bD | apply bA)); exact BK361.out⟩, ⟨by (with_reducible repeat (first | apply bN | apply bD | apply bA)); refine blk_far ?_ NB366_391.out _; (with_reducible repeat (first | apply bN | apply bD | apply bA)); refine blk_far ?_ NB366_391.out _; (with_reducible repeat (first | apply bN | apply bD | apply bA)); refine blk_far ?_ NB366_391.out _; (with_reducible repeat (first | apply bN | apply bD | apply bA)); exact BK366.out⟩, ⟨by (with_reducible repeat (first | apply bN | apply bD | apply bA)); refine blk_far ?_ NB371_391.out _; (with_reducible repeat (first | apply bN | apply bD | apply bA)); refine blk_far ?_ NB371_391.out _; (with_reducible repeat (first | apply bN | apply bD | apply bA)); refine blk_far ?_ NB371_391.out _; (with_reducible repeat (first | apply bN | apply bD | apply bA)); exact BK371.out⟩, ⟨by (with_reducible repeat (first | apply bN | apply bD | apply bA)); refine blk_far ?_ NB376_391.out _; (with_reducible repeat (first | apply bN | apply bD | apply bA)); refine blk_far ?_ NB376_391.out _; (with_reducible repeat (first | apply bN | apply bD | apply bA)); refine blk_far ?_ NB376_391.out _; (with_reducible repeat (first | apply bN | apply bD | apply bA)); exact BK376.out⟩, ⟨by repeat (first | (with_reducible first | exact HB.out | apply wA | apply wN | apply wD | refine wS ?_ GE349.out | refine wS ?_ GE350.out | refine wS ?_ GE361.out | refine wS ?_ GE366.out | refine wS ?_ GE371.out | refine wS ?_ GE376.out | refine wS ?_ GE381.out | refine wS ?_ GE386.out | refine wS ?_ GE391.out) | exact HB.out)⟩⟩
        rw [if_neg c110] at H
        have c110b0 : (((t380 ++ t385) ++ t390).toList == ([] : List UInt8)) = false := beq_eq_false_iff_ne.mpr c110
        (try (have c110b0m := c110b0; simp only [ByteArray.size_append, Int.natCast_add] at c110b0m))
        have c110b1 : (((t380 ++ t385) ++ t390).toList != ([] : List UInt8)) = true := bne_iff_ne.mpr c110
        (try (have c110b1m := c110b1; simp only [ByteArray.size_append, Int.natCast_add] at c110b1m))
        obtain rfl := Option.some.inj H
        exact absurd hrt (by decide)
      rw [if_neg c109] at H
      exact absurd H (by simp)
    rw [if_neg c108] at H
    exact absurd H (by simp)
  rw [if_neg c104] at H
  have c104b0 : decide (x15_3 ≤ 18) = false := decide_eq_false c104
  clear c104
  obtain rfl := Option.some.inj H
  go_wp2
  go_ret
  exact ⟨by first | rfl | (simp [errW_none, errW_some] <;> rfl) | (simp [*, errW_none, errW_some] <;> rfl), by repeat (first | (with_reducible first | exact HB.out | apply wA | apply wN | apply wD | refine wS ?_ GE349.out | refine wS ?_ GE350.out | refine wS ?_ GE361.out | refine wS ?_ GE366.out | refine wS ?_ GE371.out | refine wS ?_ GE376.out) | exact HB.out)⟩

/-- THE ONE PURE STATEMENT of laws_FnBits: yours. -/
def laws_FnBits.Pure : Prop := ∀ (l0 : List Int), l0.length ≤ maxLen → l0.length * 1 ≤ 140737488351232 → (∀ x ∈ l0, (Lit.int .u8 x).wf = true) → ∃ k, laws_FnBits.f k l0 = some true
theorem laws_FnBits.walk (P : laws_FnBits.Pure) (a0 : Option Addr) (len0 cap0 : Nat) (z0 : List Int) (w : World) (w0 : (a0 = none ∧ len0 = 0 ∧ cap0 = 0 ∧ z0 = []) ∨ ∃ x, a0 = some x ∧ len0 ≤ cap0 ∧ cap0 ≤ maxLen ∧ z0.length = cap0 ∧ (∀ i, i < z0.length → w.cell? (x.add i) = some (.int .u8 (z0.getD i 0))) ∧ ∀ n ∈ z0, (Lit.int .u8 n).wf = true) (y0 : len0 * 1 ≤ 140737488351232) :
    Calls Try.prog 13 #[.slice a0 len0 cap0] w fun e w' => e = .returned (.bool true) ∧ Below w.heap.size w w' := by
  obtain ⟨l0, rfl, hr0, hm0, hw0, hc0⟩ := ReadsInt.ofRowC w0
  obtain ⟨k, h⟩ := P l0 hm0 y0 hw0
  refine (laws_FnBits.calls k _ _ l0 true w (Kd.C_of_reads (d := (0 : Int)) (h1 := fun _ => rfl) hr0) hc0 rfl h).mono ?_
  rintro e w' ⟨rfl, hd⟩
  exact ⟨rfl, hd⟩

end Go.Proofs.Ytajlomhnednghaa.B
/- Plain arithmetic: bits of an integer type, taken into a type. No conditions. -/
namespace Go.Proofs.Ytajlomhnednghaa.Arith
open Go.RowKit Go.Proofs.YtajlomhnednghaaW.PrintWords Go.Proofs.YtajlomhnednghaaW.PrintLast Go.Proofs.YtajlomhnednghaaW.PrintMore
set_option linter.unusedVariables false

theorem wrap_u64 (n : Int) : IntKind.u64.wrap n = n % 18446744073709551616 := by simp [IntKind.wrap, IntKind.bits, IntKind.signed]
theorem wraps_u64 (n : Int) (h0 : 0 ≤ n) (h1 : n < 2 ^ 64) : IntKind.u64.wrap n = n := by rw [wrap_u64]; omega

def ibits (t : Int) : Int := if t = 3 ∨ t = 7 then 8 else if t = 4 ∨ t = 8 then 16 else if t = 5 ∨ t = 9 then 32 else 64
/-- The lowest bits of x as a number of type t. -/
def into (t x : Int) : Int :=
  if t = 3 then x % 256 else if t = 4 then x % 65536 else if t = 5 then x % 4294967296
  else if t = 7 then (x + 128) % 256 - 128 else if t = 8 then (x + 32768) % 65536 - 32768 else if t = 9 then (x + 2147483648) % 4294967296 - 2147483648 else wrap64 x

theorem mask8 (x : Int) (h0 : 0 ≤ x) (h1 : x < 18446744073709551616) : Go.bits .and .u64 x 255 = x % 256 := bits_mask .u64 64 (by decide) wraps_u64 8 (by decide) x h0 h1
theorem mask16 (x : Int) (h0 : 0 ≤ x) (h1 : x < 18446744073709551616) : Go.bits .and .u64 x 65535 = x % 65536 := bits_mask .u64 64 (by decide) wraps_u64 16 (by decide) x h0 h1
theorem mask32 (x : Int) (h0 : 0 ≤ x) (h1 : x < 18446744073709551616) : Go.bits .and .u64 x 4294967295 = x % 4294967296 := bits_mask .u64 64 (by decide) wraps_u64 32 (by decide) x h0 h1
theorem bits_or_comm (x y : Int) : Go.bits .or .u64 x y = Go.bits .or .u64 y x := by
  simp only [Go.bits, BitVec.or_comm]
theorem join8 (y : Int) (h0 : 0 ≤ y) (h1 : y < 256) : Go.bits .or .u64 y 18446744073709551360 = 18446744073709551360 + y := by
  rw [bits_or_comm]; exact bits_join .u64 64 (by decide) wraps_u64 8 _ y (by decide) (by decide) (by decide) h0 h1 (by omega)
theorem join16 (y : Int) (h0 : 0 ≤ y) (h1 : y < 65536) : Go.bits .or .u64 y 18446744073709486080 = 18446744073709486080 + y := by
  rw [bits_or_comm]; exact bits_join .u64 64 (by decide) wraps_u64 16 _ y (by decide) (by decide) (by decide) h0 h1 (by omega)
theorem join32 (y : Int) (h0 : 0 ≤ y) (h1 : y < 4294967296) : Go.bits .or .u64 y 18446744069414584320 = 18446744069414584320 + y := by
  rw [bits_or_comm]; exact bits_join .u64 64 (by decide) wraps_u64 32 _ y (by decide) (by decide) (by decide) h0 h1 (by omega)
end Go.Proofs.Ytajlomhnednghaa.Arith
/- The program's and the reference's 'into' and 'ValidValue' are the same. No conditions. -/
namespace Go.Proofs.Ytajlomhnednghaa.B
open Go.RowKit Go.Proofs.YtajlomhnednghaaW.PrintWords Go.Proofs.YtajlomhnednghaaW.PrintLast Go.Proofs.YtajlomhnednghaaW.PrintMore Go.Proofs.Ytajlomhnednghaa.Arith
set_option linter.unusedVariables false
set_option linter.unusedSimpArgs false

theorem specBits (k : Nat) (t : Int) : spec_l1Bits.f (k + 2) t = some (ibits t) := by
  unfold spec_l1Bits.f ibits
  by_cases h3 : t = 3 <;> by_cases h7 : t = 7 <;> by_cases h4 : t = 4 <;> by_cases h8 : t = 8 <;> by_cases h5 : t = 5 <;> by_cases h9 : t = 9 <;>
    first | omega | simp [spec_l1Bits.j0, spec_l1Bits.j1, h3, h7, h4, h8, h5, h9]
theorem implBits (k : Nat) (t : Int) : impl_bits.f (k + 2) t = some (ibits t) := by
  unfold impl_bits.f ibits
  by_cases h3 : t = 3 <;> by_cases h7 : t = 7 <;> by_cases h4 : t = 4 <;> by_cases h8 : t = 8 <;> by_cases h5 : t = 5 <;> by_cases h9 : t = 9 <;>
    first | omega | simp [impl_bits.j0, impl_bits.j1, h3, h7, h4, h8, h5, h9]
theorem ibits_cases (t : Int) : ((t = 3 ∨ t = 7) ∧ ibits t = 8) ∨ ((t = 4 ∨ t = 8) ∧ ibits t = 16) ∨ ((t = 5 ∨ t = 9) ∧ ibits t = 32) ∨ ((t ≠ 3 ∧ t ≠ 7 ∧ t ≠ 4 ∧ t ≠ 8 ∧ t ≠ 5 ∧ t ≠ 9) ∧ ibits t = 64) := by
  unfold ibits
  repeat' split
  all_goals omega
theorem sh8 : shl .u64 1 8 = 256 := by decide
theorem sh16 : shl .u64 1 16 = 65536 := by decide
theorem sh32 : shl .u64 1 32 = 4294967296 := by decide
theorem shf8 : shl .u64 18446744073709551615 8 = 18446744073709551360 := by decide
theorem shf16 : shl .u64 18446744073709551615 16 = 18446744073709486080 := by decide
theorem shf32 : shl .u64 18446744073709551615 32 = 18446744069414584320 := by decide
theorem sr7 (x : Int) : shr .u64 x 7 = x / 128 := by unfold shr; rfl
theorem sr15 (x : Int) : shr .u64 x 15 = x / 32768 := by unfold shr; rfl
theorem sr31 (x : Int) : shr .u64 x 31 = x / 2147483648 := by unfold shr; rfl
theorem w8 : IntKind.u64.wrap 8 = 8 := by decide
theorem w16 : IntKind.u64.wrap 16 = 16 := by decide
theorem w32 : IntKind.u64.wrap 32 = 32 := by decide
theorem wm8 : IntKind.u64.wrap (256 - 1) = 255 := by decide
theorem wm16 : IntKind.u64.wrap (65536 - 1) = 65535 := by decide
theorem wm32 : IntKind.u64.wrap (4294967296 - 1) = 4294967295 := by decide
theorem w7 : IntKind.u64.wrap (8 - 1) = 7 := by decide
theorem w15 : IntKind.u64.wrap (16 - 1) = 15 := by decide
theorem w31 : IntKind.u64.wrap (32 - 1) = 31 := by decide
theorem wh8 : IntKind.u64.wrap (256 / 2) = 128 := by decide
theorem wh16 : IntKind.u64.wrap (65536 / 2) = 32768 := by decide
theorem wh32 : IntKind.u64.wrap (4294967296 / 2) = 2147483648 := by decide

theorem specInto (k : Nat) (t x : Int) (h0 : 0 ≤ x) (h1 : x < 18446744073709551616) : spec_l4Into.f (k + 2) t x = some (into t x) := by
  have e8 : Int.tmod x 256 = x % 256 := Int.tmod_eq_emod_of_nonneg h0
  have e16 : Int.tmod x 65536 = x % 65536 := Int.tmod_eq_emod_of_nonneg h0
  have e32 : Int.tmod x 4294967296 = x % 4294967296 := Int.tmod_eq_emod_of_nonneg h0
  unfold spec_l4Into.f
  rw [specBits]
  rcases ibits_cases t with ⟨ht, hb⟩ | ⟨ht, hb⟩ | ⟨ht, hb⟩ | ⟨ht, hb⟩
  · rw [hb]
    rcases ht with rfl | rfl
    · simp [spec_l1Signed.f, into, w8, sh8, e8, wrap64]; omega
    · simp [spec_l1Signed.f, into, w8, sh8, e8, wh8]
      split <;> simp [wrap64, wrap_u64] <;> omega
  · rw [hb]
    rcases ht with rfl | rfl
    · simp [spec_l1Signed.f, into, w16, sh16, e16, wrap64]; omega
    · simp [spec_l1Signed.f, into, w16, sh16, e16, wh16]
      split <;> simp [wrap64, wrap_u64] <;> omega
  · rw [hb]
    rcases ht with rfl | rfl
    · simp [spec_l1Signed.f, into, w32, sh32, e32, wrap64]; omega
    · simp [spec_l1Signed.f, into, w32, sh32, e32, wh32]
      split <;> simp [wrap64, wrap_u64] <;> omega
  · rw [hb]
    obtain ⟨a, b, c, d, e, f⟩ := ht
    simp [into, a, b, c, d, e, f]

theorem implInto (k : Nat) (t x : Int) (h0 : 0 ≤ x) (h1 : x < 18446744073709551616) : impl_into.f (k + 2) x t = some (into t x) := by
  have e8 := mask8 x h0 h1
  have e16 := mask16 x h0 h1
  have e32 := mask32 x h0 h1
  have j8 := join8 (x % 256) (by omega) (by omega)
  have j16 := join16 (x % 65536) (by omega) (by omega)
  have j32 := join32 (x % 4294967296) (by omega) (by omega)
  unfold impl_into.f
  rw [implBits]
  rcases ibits_cases t with ⟨ht, hb⟩ | ⟨ht, hb⟩ | ⟨ht, hb⟩ | ⟨ht, hb⟩
  · rw [hb]
    simp only [Option.bind_some, sh8, wm8, e8, w7, sr7, shf8, j8]
    rcases ht with rfl | rfl
    · simp [impl_signed.f, into, wrap64]; omega
    · simp [impl_signed.f, into, wrap64]
      split <;> simp <;> omega
  · rw [hb]
    simp only [Option.bind_some, sh16, wm16, e16, w15, sr15, shf16, j16]
    rcases ht with rfl | rfl
    · simp [impl_signed.f, into, wrap64]; omega
    · simp [impl_signed.f, into, wrap64]
      split <;> simp <;> omega
  · rw [hb]
    simp only [Option.bind_some, sh32, wm32, e32, w31, sr31, shf32, j32]
    rcases ht with rfl | rfl
    · simp [impl_signed.f, into, wrap64]; omega
    · simp [impl_signed.f, into, wrap64]
      split <;> simp <;> omega
  · rw [hb]
    obtain ⟨a, b, c, d, e, f⟩ := ht
    simp [into, a, b, c, d, e, f]

theorem u64_range (n : Int) : 0 ≤ IntKind.u64.wrap n ∧ IntKind.u64.wrap n < 18446744073709551616 := by rw [wrap_u64]; omega

/-- What both say of a value. -/
def valid (t n : Int) (s : ByteArray) : Bool :=
  if t = 1 then (decide (n = 0) || decide (n = 1)) && (s.toList == ([] : List UInt8))
  else if t = 2 then decide (n = 0) && decide ((s.size : Int) ≤ 3000)
  else decide (3 ≤ t) && decide (t ≤ 10) && (s.toList == ([] : List UInt8)) && (n == into t (IntKind.u64.wrap n))
theorem specValid (k : Nat) (t n : Int) (s : ByteArray) : spec_ValidValue.f (k + 2) t n s = some (valid t n s) := by
  have h := u64_range n
  unfold spec_ValidValue.f valid
  by_cases h1 : t = 1
  · simp only [h1, if_true]
    by_cases a : n = 0 <;> by_cases b : n = 1 <;> simp [a, b]
  · by_cases h2 : t = 2
    · simp only [h2]
      by_cases a : n = 0 <;> simp [a]
    · simp only [h1, h2, if_false, spec_l1Integer.f]
      by_cases a : 3 ≤ t <;> by_cases b : t ≤ 10 <;> by_cases c : s.toList = ([] : List UInt8) <;> simp [a, b, c, specInto k t _ h.1 h.2]
theorem implValid (k : Nat) (t n : Int) (s : ByteArray) : impl_ValidValue.f (k + 2) t n s = some (valid t n s) := by
  have h := u64_range n
  unfold impl_ValidValue.f valid
  by_cases h1 : t = 1
  · simp only [h1, if_true]
    by_cases a : n = 0 <;> by_cases b : n = 1 <;> simp [a, b]
  · by_cases h2 : t = 2
    · simp only [h2]
      by_cases a : n = 0 <;> simp [a]
    · simp only [h1, h2, if_false, impl_integer.f]
      by_cases a : 3 ≤ t <;> by_cases b : t ≤ 10 <;> by_cases c : s.toList = ([] : List UInt8) <;> simp [a, b, c, implInto k t _ h.1 h.2]
      rw [Bool.eq_iff_iff]; simp only [beq_iff_eq]; exact eq_comm
end Go.Proofs.Ytajlomhnednghaa.B
/- Plain laws on the reference's draws: each draw ends, and what it tells is in its range. No conditions. -/
namespace Go.Proofs.Ytajlomhnednghaa.B
open Go.RowKit Go.Proofs.YtajlomhnednghaaW.PrintWords Go.Proofs.YtajlomhnednghaaW.PrintLast Go.Proofs.YtajlomhnednghaaW.PrintMore Go.Proofs.Ytajlomhnednghaa.Arith
set_option linter.unusedVariables false
set_option linter.unusedSimpArgs false

theorem rd_byte {s : List Int} (h : ∀ x ∈ s, 0 ≤ x ∧ x ≤ 255) (i : Int) : 0 ≤ rd s i ∧ rd s i ≤ 255 := by
  unfold rd
  rw [List.getD_eq_getElem?_getD]
  rcases hx : s[i.toNat]? with _ | x
  · simp
  · have := h x (List.mem_of_getElem? hx); simpa using this
theorem xor_range (a b : Int) (h0 : 0 ≤ a) (h1 : a < 4611686018427387904) (h2 : 0 ≤ b) (h3 : b < 4611686018427387904) : 0 ≤ Go.bits .xor .i64 a b ∧ Go.bits .xor .i64 a b < 4611686018427387904 := by
  obtain ⟨n, rfl⟩ := Int.eq_ofNat_of_zero_le h0
  obtain ⟨m, rfl⟩ := Int.eq_ofNat_of_zero_le h2
  have hn : n < 2 ^ 62 := by omega
  have hm : m < 2 ^ 62 := by omega
  have hx : n ^^^ m < 2 ^ 62 := Nat.xor_lt_two_pow hn hm
  have ha' : n % 2 ^ IntKind.i64.bits = n := Nat.mod_eq_of_lt (by show n < 2 ^ 64; omega)
  have hb' : m % 2 ^ IntKind.i64.bits = m := Nat.mod_eq_of_lt (by show m < 2 ^ 64; omega)
  have e : Go.bits .xor .i64 (n : Int) (m : Int) = ((n ^^^ m : Nat) : Int) := by
    simp only [Go.bits, BitVec.ofInt_natCast, BitVec.toNat_xor, BitVec.toNat_ofNat, ha', hb']
    generalize n ^^^ m = z at hx
    rw [IntKind.wrap_i64]
    omega
  rw [e]; omega
def Bytes (s : List Int) : Prop := s.length ≤ 2000 ∧ ∀ x ∈ s, 0 ≤ x ∧ x ≤ 255
theorem wrap_id {x : Int} (h0 : -9223372036854775808 ≤ x) (h1 : x ≤ 9223372036854775807) : wrap64 x = x := by unfold wrap64; omega
theorem mod_pick {x n : Int} (h0 : 0 ≤ x) (hn : 1 ≤ n) : 0 ≤ Int.tmod x n ∧ Int.tmod x n < n := by
  rw [Int.tmod_eq_emod_of_nonneg h0]
  exact ⟨Int.emod_nonneg _ (by omega), Int.emod_lt_of_pos _ (by omega)⟩
theorem div_pick {x n : Int} (h0 : 0 ≤ x) (hn : 1 ≤ n) : 0 ≤ Int.tdiv x n ∧ Int.tdiv x n ≤ x := by
  rw [Int.tdiv_eq_ediv_of_nonneg h0]
  exact ⟨Int.ediv_nonneg h0 (by omega), Int.ediv_le_self _ h0⟩
theorem pick_ok {s : List Int} (hs : Bytes s) {p : Int} (h0 : 0 ≤ p) (h1 : p ≤ 1000000000) (n : Int) (hn : 1 ≤ n) {k : Nat} (hk : 0 < k) : ∃ v, spec_l1Rd_pick.f k s p n = some (v, p + 1) ∧ 0 ≤ v ∧ v < n := by
  obtain ⟨k, rfl⟩ : ∃ q, k = q + 1 := ⟨k - 1, by omega⟩
  unfold spec_l1Rd_pick.f
  rw [if_neg (by omega), wrap_id (by omega) (by omega), spec_l1Rd_pick.j0]
  by_cases e : (s.length : Int) = 0
  · rw [e]
    exact ⟨0, rfl, by omega, by omega⟩
  · rw [if_neg (by simpa using e), show p + 1 - 1 = p from by omega, wrap_id (x := p) (by omega) (by omega)]
    have hl : 1 ≤ (s.length : Int) := by omega
    have hl2 : (s.length : Int) ≤ 2000 := by have := hs.1; omega
    by_cases c : p < (s.length : Int)
    · have r := rd_byte hs.2 p
      rw [if_pos c, if_pos h0, if_neg (by omega), wrap_id (by omega) (by omega)]
      exact ⟨_, rfl, mod_pick r.1 hn⟩
    · have w7 : wrap64 (p * 7) = p * 7 := wrap_id (by omega) (by omega)
      have w3 : wrap64 (p * 7 + 3) = p * 7 + 3 := wrap_id (by omega) (by omega)
      have i1 := mod_pick (x := p) (n := s.length) h0 hl
      have i2 := mod_pick (x := p * 7 + 3) (n := s.length) (by omega) hl
      have r1 := rd_byte hs.2 (Int.tmod p s.length)
      have r2 := rd_byte hs.2 (Int.tmod (p * 7 + 3) s.length)
      have d1 := div_pick (x := p) (n := s.length) h0 hl
      rw [if_neg c, if_neg e, if_pos i1.1, if_pos i1.2, w7, w3, if_pos i2.1, if_pos i2.2, if_neg (by omega)]
      generalize rd s (Int.tmod p s.length) = a at r1
      generalize rd s (Int.tmod (p * 7 + 3) s.length) = b at r2
      generalize Int.tdiv p s.length = d at d1
      rw [wrap_id (x := a) (by omega) (by omega), wrap_id (x := b) (by omega) (by omega), wrap_id (x := d) (by omega) (by omega), wrap_id (x := a * 131) (by omega) (by omega), wrap_id (x := b * 1117) (by omega) (by omega), wrap_id (x := p * 29) (by omega) (by omega), wrap_id (x := d * 53) (by omega) (by omega),
        wrap_id (x := a * 131 + b * 1117) (by omega) (by omega), wrap_id (x := a * 131 + b * 1117 + p * 29) (by omega) (by omega), wrap_id (x := a * 131 + b * 1117 + p * 29 + d * 53) (by omega) (by omega)]
      have hz : 0 ≤ a * 131 + b * 1117 + p * 29 + d * 53 ∧ a * 131 + b * 1117 + p * 29 + d * 53 ≤ 100000000000 := by omega
      generalize a * 131 + b * 1117 + p * 29 + d * 53 = z at hz
      have d2 := div_pick (x := z) (n := 64) hz.1 (by omega)
      rw [wrap_id (x := Int.tdiv z 64) (by omega) (by omega)]
      exact ⟨_, rfl, mod_pick (xor_range z (Int.tdiv z 64) (by omega) (by omega) (by omega) (by omega)).1 hn⟩
theorem open_ok (l : List Int) (hl : l.length ≤ maxLen) (hb : ∀ x ∈ l, (Lit.int .u8 x).wf = true) : ∃ s, spec_l1Open.f l = some (s, 0) ∧ Bytes s := by
  have hb' : ∀ x ∈ l, 0 ≤ x ∧ x ≤ 255 := fun x hx => by
    have := hb x hx
    simp [Lit.wf] at this
    have a : IntKind.u8.min = 0 := by decide
    have b : IntKind.u8.max = 255 := by decide
    omega
  unfold spec_l1Open.f
  by_cases c : (l.length : Int) > 2000
  · rw [if_pos c, if_pos (by omega)]
    exact ⟨_, rfl, by simp; omega, fun x hx => hb' x (List.mem_of_mem_take hx)⟩
  · rw [if_neg c]
    exact ⟨_, rfl, by omega, hb'⟩
theorem many_ok : ∀ (d k : Nat) (x r : ByteArray) (n : Int), 0 ≤ n → n < 2 ^ d → n ≤ 100000 → d < k → x.size * 2 ^ d ≤ 1099511627776 → r.size ≤ x.size → ∃ q, spec_l1Many.l0 k x n r = some q := by
  intro d
  induction d with
  | zero =>
    intro k x r n h0 h1 hn hk hx hr
    obtain ⟨k, rfl⟩ : ∃ q, k = q + 1 := ⟨k - 1, by omega⟩
    rw [spec_l1Many.l0, if_neg (by omega)]
    exact ⟨_, rfl⟩
  | succ d ih =>
    intro k x r n h0 h1 hn hk hx hr
    obtain ⟨k, rfl⟩ : ∃ q, k = q + 1 := ⟨k - 1, by omega⟩
    rw [Nat.pow_succ] at hx
    have hp : 0 < 2 ^ d := Nat.pow_pos (by omega)
    have hx1 : x.size ≤ 1099511627776 := by
      have : x.size * 1 ≤ x.size * (2 ^ d * 2) := Nat.mul_le_mul_left _ (by omega)
      omega
    have hx2 : (x ++ x).size * 2 ^ d ≤ 1099511627776 := by
      rw [ByteArray.size_append, ← Nat.two_mul, Nat.mul_comm 2, Nat.mul_assoc, Nat.mul_comm 2]; exact hx
    have s1 : (r ++ x).size = r.size + x.size := by rw [ByteArray.size_append]
    have s2 : (x ++ x).size = x.size + x.size := by rw [ByteArray.size_append]
    have hd := div_pick (x := n) (n := 2) h0 (by omega)
    have hd2 : Int.tdiv n 2 < 2 ^ d := by
      rw [Int.tdiv_eq_ediv_of_nonneg h0]
      rw [Int.pow_succ] at h1
      omega
    rw [spec_l1Many.l0]
    by_cases c : n > 0
    · rw [if_pos c, wrap_id (x := Int.tdiv n 2) (by omega) (by omega)]
      by_cases e : Int.tmod n 2 = 1
      · rw [if_pos e, if_pos (by omega), if_pos (by omega)]
        exact ih k (x ++ x) (r ++ x) _ hd.1 hd2 (by omega) (by omega) hx2 (by omega)
      · rw [if_neg e, if_pos (by omega)]
        exact ih k (x ++ x) r _ hd.1 hd2 (by omega) (by omega) hx2 (by omega)
    · rw [if_neg c]; exact ⟨_, rfl⟩
theorem many_one (x : ByteArray) (hx : x.size ≤ 10) (n : Int) (h0 : 0 ≤ n) (h1 : n ≤ 8000) (k : Nat) (hk : 13 < k) : ∃ q, spec_l1Many.f k x n = some q :=
  many_ok 13 k x _ n h0 (by omega) (by omega) hk (by omega) (Nat.zero_le _)
theorem path_ok {s : List Int} (hs : Bytes s) {p : Int} (h0 : 0 ≤ p) (h1 : p ≤ 1000000000) {k : Nat} (hk : 0 < k) : ∃ t, spec_l1Path.f k s p = some (t, p + 1) := by
  obtain ⟨v, e, v0, v1⟩ := pick_ok hs h0 h1 8 (by omega) hk
  unfold spec_l1Path.f
  simp only [Option.bind_some, e]
  rw [if_pos v0, if_pos (by simpa using v1)]
  exact ⟨_, rfl⟩
theorem drawText_loop {s : List Int} (hs : Bytes s) (n : Int) (hn : n ≤ 1000) : ∀ (d k : Nat) (i p : Int) (x : List Int), 0 ≤ i → n + 1 - i ≤ d → 0 ≤ p → p + d ≤ 1000000000 → d < k → x.length + d ≤ 100000 → ∃ t p', spec_l1DrawText.l0 k n x i s p = some (t, p') ∧ p ≤ p' ∧ p' ≤ p + d := by
  intro d
  induction d with
  | zero =>
    intro k i p x hi h hp hp' hk hx
    obtain ⟨k, rfl⟩ : ∃ q, k = q + 1 := ⟨k - 1, by omega⟩
    rw [spec_l1DrawText.l0, if_neg (by omega)]
    exact ⟨_, _, rfl, by omega, by omega⟩
  | succ d ih =>
    intro k i p x hi h hp hp' hk hx
    obtain ⟨k, rfl⟩ : ∃ q, k = q + 1 := ⟨k - 1, by omega⟩
    rw [spec_l1DrawText.l0]
    by_cases c : i ≤ n
    · obtain ⟨v, e, v0, v1⟩ := pick_ok hs hp (by omega) 4 (by omega) (show 0 < k by omega)
      rw [if_pos c, e]
      simp only [Option.bind_some]
      rw [if_pos (by omega), wrap_id (x := i + 1) (by omega) (by omega)]
      obtain ⟨t, p', e', a, b⟩ := ih k (i + 1) (p + 1) (x ++ [(wrap64 (97 + v)) % 256]) (by omega) (by omega) (by omega) (by omega) (by omega) (by simp; omega)
      exact ⟨t, p', e', by omega, by omega⟩
    · rw [if_neg c]; exact ⟨_, _, rfl, by omega, by omega⟩
theorem drawText_ok {s : List Int} (hs : Bytes s) {p : Int} (h0 : 0 ≤ p) (h1 : p ≤ 999999000) {k : Nat} (hk : 10 < k) : ∃ t p', spec_l1DrawText.f k s p = some (t, p') ∧ p ≤ p' ∧ p' ≤ p + 10 := by
  obtain ⟨v, e, v0, v1⟩ := pick_ok hs h0 (by omega) 12 (by omega) (show 0 < k by omega)
  obtain ⟨t6, e6⟩ := path_ok hs (p := p + 1) (by omega) (by omega) (show 0 < k by omega)
  obtain ⟨v2, e2, a2, b2⟩ := pick_ok hs (p := p + 1) (by omega) (by omega) 5 (by omega) (show 0 < k by omega)
  obtain ⟨t7, p7, e7, a7, b7⟩ := drawText_loop hs v2 (by omega) 5 k 0 (p + 1 + 1) [] (by omega) (by omega) (by omega) (by omega) (by omega) (by simp)
  unfold spec_l1DrawText.f
  rw [e]
  simp only [Option.bind_some, e6, e2, e7]
  repeat (first | exact ⟨_, _, rfl, by omega, by omega⟩ | split)
theorem max_loop (n : Int) (hn : n ≤ 64) : ∀ (d k : Nat) (x i : Int), 0 ≤ i → n - i ≤ d → d < k → 0 ≤ x → x < 18446744073709551616 → ∃ m, spec_l1Max.l0 k n x i = some m ∧ 0 ≤ m ∧ m < 18446744073709551616 := by
  intro d
  induction d with
  | zero =>
    intro k x i hi h hk h0 h1
    obtain ⟨k, rfl⟩ : ∃ q, k = q + 1 := ⟨k - 1, by omega⟩
    rw [spec_l1Max.l0, if_neg (by omega)]
    exact ⟨_, rfl, h0, h1⟩
  | succ d ih =>
    intro k x i hi h hk h0 h1
    obtain ⟨k, rfl⟩ : ∃ q, k = q + 1 := ⟨k - 1, by omega⟩
    rw [spec_l1Max.l0]
    by_cases c : i < n
    · rw [if_pos c, wrap_id (x := i + 1) (by omega) (by omega)]
      exact ih k _ (i + 1) (by omega) (by omega) (by omega) (u64_range _).1 (u64_range _).2
    · rw [if_neg c]; exact ⟨_, rfl, h0, h1⟩
theorem max_ok (t : Int) {k : Nat} (hk : 70 < k) : ∃ m, spec_l1Max.f k t = some m ∧ 0 ≤ m ∧ m < 18446744073709551616 := by
  obtain ⟨q, rfl⟩ : ∃ q, k = q + 2 := ⟨k - 2, by omega⟩
  have hb : 8 ≤ ibits t ∧ ibits t ≤ 64 := by rcases ibits_cases t with ⟨_, h⟩ | ⟨_, h⟩ | ⟨_, h⟩ | ⟨_, h⟩ <;> rw [h] <;> omega
  obtain ⟨sg, hsg⟩ : ∃ b, spec_l1Signed.f t = some b := by unfold spec_l1Signed.f; split <;> exact ⟨_, rfl⟩
  unfold spec_l1Max.f
  rw [specBits q t, hsg]
  simp only [Option.bind_some]
  rw [wrap_id (x := ibits t - 1) (by omega) (by omega)]
  split
  · rw [spec_l1Max.j0]; exact max_loop (ibits t - 1) (by omega) 64 (q + 1) 0 0 (by omega) (by omega) (by omega) (by omega) (by omega)
  · rw [spec_l1Max.j0]; exact max_loop (ibits t) (by omega) 64 (q + 1) 0 0 (by omega) (by omega) (by omega) (by omega) (by omega)
theorem number_ok {s : List Int} (hs : Bytes s) {p : Int} (h0 : 0 ≤ p) (h1 : p ≤ 999999000) (t : Int) {k : Nat} (hk : 70 < k) : ∃ n p', spec_l1Number.f k s p t = some (n, p') ∧ p ≤ p' ∧ p' ≤ p + 10 := by
  obtain ⟨q, rfl⟩ : ∃ q, k = q + 2 := ⟨k - 2, by omega⟩
  obtain ⟨m, em, m0, m1⟩ := max_ok t hk
  obtain ⟨v, e, v0, v1⟩ := pick_ok hs h0 (by omega) 9 (by omega) (show 0 < q + 2 by omega)
  obtain ⟨v2, e2, a2, b2⟩ := pick_ok hs (p := p + 1) (by omega) (by omega) 3 (by omega) (show 0 < q + 2 by omega)
  obtain ⟨v3, e3, a3, b3⟩ := pick_ok hs (p := p + 1) (by omega) (by omega) 256 (by omega) (show 0 < q + 2 by omega)
  obtain ⟨v4, e4, a4, b4⟩ := pick_ok hs (p := p + 1 + 1) (by omega) (by omega) 256 (by omega) (show 0 < q + 2 by omega)
  obtain ⟨v5, e5, a5, b5⟩ := pick_ok hs (p := p + 1 + 1 + 1) (by omega) (by omega) 256 (by omega) (show 0 < q + 2 by omega)
  obtain ⟨v6, e6, a6, b6⟩ := pick_ok hs (p := p + 1) (by omega) (by omega) 10 (by omega) (show 0 < q + 2 by omega)
  unfold spec_l1Number.f
  rw [em]
  simp only [Option.bind_some, e, e2, e3, e4, e5, e6, specInto q t _ (u64_range _).1 (u64_range _).2]
  repeat (first | exact ⟨_, _, rfl, by omega, by omega⟩ | split)
theorem numAny (q : Nat) (t x : Int) : spec_l4Num.f (q + 2) t (IntKind.u64.wrap x) = some (t, into t (IntKind.u64.wrap x), ⟨#[]⟩) := by
  unfold spec_l4Num.f
  rw [specInto q t _ (u64_range _).1 (u64_range _).2]
  rfl
theorem value_ok {s : List Int} (hs : Bytes s) {p : Int} (h0 : 0 ≤ p) (h1 : p ≤ 999998000) (t : Int) {k : Nat} (hk : 70 < k) : ∃ t' n x p', spec_l4Value.f k s p t = some (t', n, x, p') ∧ p ≤ p' ∧ p' ≤ p + 20 := by
  obtain ⟨q, rfl⟩ : ∃ q, k = q + 2 := ⟨k - 2, by omega⟩
  unfold spec_l4Value.f
  by_cases c1 : t = 1
  · obtain ⟨v, e, v0, v1⟩ := pick_ok hs h0 (by omega) 2 (by omega) (show 0 < q + 2 by omega)
    rw [if_pos c1, e]
    simp only [Option.bind_some, spec_l4Bool.f]
    split <;> exact ⟨_, _, _, _, rfl, by omega, by omega⟩
  · rw [if_neg c1]
    by_cases c2 : t = 2
    · obtain ⟨v, e, v0, v1⟩ := pick_ok hs h0 (by omega) 12 (by omega) (show 0 < q + 2 by omega)
      obtain ⟨v2, e2, a2, b2⟩ := pick_ok hs (p := p + 1) (by omega) (by omega) 3 (by omega) (show 0 < q + 2 by omega)
      obtain ⟨v3, e3, a3, b3⟩ := pick_ok hs (p := p + 1 + 1) (by omega) (by omega) 12 (by omega) (show 0 < q + 2 by omega)
      obtain ⟨t7, p7, e7, a7, b7⟩ := drawText_ok hs (p := p + 1 + 1) (by omega) (by omega) (show 10 < q + 2 by omega)
      obtain ⟨m, em⟩ := many_one ⟨#[118]⟩ (by decide) (wrap64 (3000 - v2)) (by rw [wrap_id (by omega) (by omega)]; omega) (by rw [wrap_id (by omega) (by omega)]; omega) (q + 2) (by omega)
      rw [if_pos c2, e]
      simp only [Option.bind_some, e2, em, e3, e7, spec_l4Text.f]
      rw [if_pos a3, if_pos (c := v3 < ((_ : List ByteArray).length : Int)) (by simpa using b3)]
      split
      · exact ⟨_, _, _, _, rfl, by omega, by omega⟩
      · split <;> exact ⟨_, _, _, _, rfl, by omega, by omega⟩
    · obtain ⟨n, p1, e, a, b⟩ := number_ok hs h0 (by omega) t hk
      obtain ⟨v2, e2, a2, b2⟩ := pick_ok hs (p := p1) (by omega) (by omega) 4 (by omega) (show 0 < q + 2 by omega)
      obtain ⟨v3, e3, a3, b3⟩ := pick_ok hs (p := p1 + 1) (by omega) (by omega) 3 (by omega) (show 0 < q + 2 by omega)
      obtain ⟨m, em, m0, m1⟩ := max_ok t hk
      rw [if_neg c2, e]
      simp only [Option.bind_some, e2, e3, em, numAny]
      repeat (first | exact ⟨_, _, _, _, rfl, by omega, by omega⟩ | split)
theorem any_ok {s : List Int} (hs : Bytes s) {p : Int} (h0 : 0 ≤ p) (h1 : p ≤ 999997000) (t : Int) {k : Nat} (hk : 70 < k) : ∃ t' n x p', spec_l4Any.f k s p t = some (t', n, x, p') ∧ p ≤ p' ∧ p' ≤ p + 30 := by
  obtain ⟨t', n, x, p1, e, a, b⟩ := value_ok hs h0 (by omega) t hk
  obtain ⟨v, e1, v0, v1⟩ := pick_ok hs (p := p1) (by omega) (by omega) 12 (by omega) (show 0 < k by omega)
  obtain ⟨v2, e2, a2, b2⟩ := pick_ok hs (p := p1 + 1) (by omega) (by omega) 4 (by omega) (show 0 < k by omega)
  obtain ⟨v3, e3, a3, b3⟩ := pick_ok hs (p := p1 + 1 + 1) (by omega) (by omega) 13 (by omega) (show 0 < k by omega)
  obtain ⟨v4, e4, a4, b4⟩ := pick_ok hs (p := p1 + 1 + 1) (by omega) (by omega) 6 (by omega) (show 0 < k by omega)
  obtain ⟨m, em⟩ := many_one ⟨#[118]⟩ (by decide) 3001 (by omega) (by omega) k (by omega)
  unfold spec_l4Any.f
  rw [e]
  simp only [Option.bind_some, e1, e2, e3, e4, em]
  rw [if_pos a4, if_pos (c := v4 < ((_ : List Int).length : Int)) (by simpa using b4)]
  split
  · split
    · exact ⟨_, _, _, _, rfl, by omega, by omega⟩
    · split
      · exact ⟨_, _, _, _, rfl, by omega, by omega⟩
      · split <;> exact ⟨_, _, _, _, rfl, by omega, by omega⟩
  · exact ⟨_, _, _, _, rfl, by omega, by omega⟩
end Go.Proofs.Ytajlomhnednghaa.B
/- Plain laws on numbers of a type: into, doubling, halving. No conditions. -/
namespace Go.Proofs.Ytajlomhnednghaa.B
open Go.RowKit Go.Proofs.YtajlomhnednghaaW.PrintWords Go.Proofs.YtajlomhnednghaaW.PrintLast Go.Proofs.YtajlomhnednghaaW.PrintMore Go.Proofs.Ytajlomhnednghaa.Arith
set_option linter.unusedVariables false
set_option linter.unusedSimpArgs false
theorem valid_into {t n : Int} {s : ByteArray} (h : valid t n s = true) (h1 : t ≠ 1) (h2 : t ≠ 2) : 3 ≤ t ∧ t ≤ 10 ∧ n = into t (IntKind.u64.wrap n) ∧ s.toList = [] := by
  unfold valid at h
  simp only [h1, h2, if_false, Bool.and_eq_true, decide_eq_true_eq, beq_iff_eq] at h
  exact ⟨h.1.1.1, h.1.1.2, h.2, h.1.2⟩
theorem into_zero (t : Int) : into t 0 = 0 := by
  unfold into wrap64
  repeat' split
  all_goals omega
theorem type_cases {t : Int} (h3 : 3 ≤ t) (h10 : t ≤ 10) : t = 3 ∨ t = 4 ∨ t = 5 ∨ t = 6 ∨ t = 7 ∨ t = 8 ∨ t = 9 ∨ t = 10 := by omega

def up (x : Int) (i : Nat) : Int := IntKind.u64.wrap (x * 2 ^ i)
theorem up_zero (x : Int) (h0 : 0 ≤ x) (h1 : x < 18446744073709551616) : up x 0 = x := by
  unfold up; rw [wrap_u64]; simp; omega
theorem up_succ (x : Int) (i : Nat) : up x (i + 1) = IntKind.u64.wrap (up x i * 2) := by
  unfold up
  rw [Int.pow_succ, ← Int.mul_assoc, wrap_u64, wrap_u64, wrap_u64]
  generalize x * 2 ^ i = z
  omega
theorem up_range (x : Int) (i : Nat) : 0 ≤ up x i ∧ up x i < 18446744073709551616 := u64_range _
theorem md8 (x c : Int) : (x % 18446744073709551616 + c) % 256 = (x + c) % 256 := by omega
theorem md16 (x c : Int) : (x % 18446744073709551616 + c) % 65536 = (x + c) % 65536 := by omega
theorem md32 (x c : Int) : (x % 18446744073709551616 + c) % 4294967296 = (x + c) % 4294967296 := by omega
theorem mt8 (x c : Int) : (x % 18446744073709551616 * 2 + c) % 256 = (x * 2 + c) % 256 := by omega
theorem mt16 (x c : Int) : (x % 18446744073709551616 * 2 + c) % 65536 = (x * 2 + c) % 65536 := by omega
theorem mt32 (x c : Int) : (x % 18446744073709551616 * 2 + c) % 4294967296 = (x * 2 + c) % 4294967296 := by omega
theorem md8z (x : Int) : (x % 18446744073709551616) % 256 = (x + 0) % 256 := by omega
theorem md16z (x : Int) : (x % 18446744073709551616) % 65536 = (x + 0) % 65536 := by omega
theorem md32z (x : Int) : (x % 18446744073709551616) % 4294967296 = (x + 0) % 4294967296 := by omega
theorem u64_wrap64 (z : Int) (h0 : 0 ≤ z) (h1 : z < 18446744073709551616) : wrap64 z % 18446744073709551616 = z := by unfold wrap64; omega
theorem into_double (t z : Int) (h0 : 0 ≤ z) (h1 : z < 18446744073709551616) : into t (IntKind.u64.wrap (IntKind.u64.wrap (into t z) * 2)) = into t (IntKind.u64.wrap (z * 2)) := by
  unfold into
  simp only [wrap_u64]
  by_cases a : t = 3
  · simp only [a, if_true]; rw [md8z, md8z, mt8]; clear h0 h1; omega
  · by_cases b : t = 4
    · simp only [a, b, if_true, if_false]; rw [md16z, md16z, mt16]; clear h0 h1; omega
    · by_cases c : t = 5
      · simp only [a, b, c, if_true, if_false]; rw [md32z, md32z, mt32]; clear h0 h1; omega
      · by_cases d : t = 7
        · simp only [a, b, c, d, if_true, if_false]; rw [md8, md8, mt8]; clear h0 h1; omega
        · by_cases e : t = 8
          · simp only [a, b, c, d, e, if_true, if_false]; rw [md16, md16, mt16]; clear h0 h1; omega
          · by_cases f : t = 9
            · simp only [a, b, c, d, e, f, if_true, if_false]; rw [md32, md32, mt32]; clear h0 h1; omega
            · simp only [a, b, c, d, e, f, if_false]; rw [u64_wrap64 z h0 h1]
theorem down_zero (x : Int) : x / 2 ^ 0 = x := by simp
theorem down_succ (x : Int) (i : Nat) : x / 2 ^ (i + 1) = x / 2 ^ i / 2 := by
  rw [Int.pow_succ, ← Int.ediv_ediv_of_nonneg (Int.pow_nonneg (by decide) : (0 : Int) ≤ 2 ^ i)]
theorem down_range (x : Int) (h0 : 0 ≤ x) (h1 : x < 18446744073709551616) (i : Nat) : 0 ≤ x / 2 ^ i ∧ x / 2 ^ i < 18446744073709551616 := by
  have hp : (0 : Int) < 2 ^ i := Int.pow_pos (by decide)
  exact ⟨Int.ediv_nonneg h0 (by omega), Int.lt_of_le_of_lt (Int.ediv_le_self _ h0) h1⟩
theorem into_range (t x : Int) : -9223372036854775808 ≤ into t x ∧ into t x ≤ 9223372036854775807 := by
  unfold into wrap64
  repeat' split
  all_goals omega
theorem bits_le (t : Int) : 8 ≤ ibits t ∧ ibits t ≤ 64 := by rcases ibits_cases t with ⟨_, h⟩ | ⟨_, h⟩ | ⟨_, h⟩ | ⟨_, h⟩ <;> rw [h] <;> omega
theorem up_full (t X : Int) : into t (up X (ibits t).toNat) = 0 := by
  unfold up
  rcases ibits_cases t with ⟨ht, h⟩ | ⟨ht, h⟩ | ⟨ht, h⟩ | ⟨ht, h⟩ <;> rw [h, wrap_u64]
  · rw [show (2 : Int) ^ (8 : Int).toNat = 256 from by decide]
    rcases ht with rfl | rfl <;> simp [into] <;> omega
  · rw [show (2 : Int) ^ (16 : Int).toNat = 65536 from by decide]
    rcases ht with rfl | rfl <;> simp [into] <;> omega
  · rw [show (2 : Int) ^ (32 : Int).toNat = 4294967296 from by decide]
    rcases ht with rfl | rfl <;> simp [into] <;> omega
  · rw [show (2 : Int) ^ (64 : Int).toNat = 18446744073709551616 from by decide, Int.mul_emod_left]
    exact into_zero t
theorem min_bits {b : Int} {m : Nat} (h0 : 0 ≤ b) (h : b ≤ m) (hm : m ≤ 64) : min b.toNat 64 = b.toNat := Nat.min_eq_left (by omega)
theorem shl_up (X b : Int) (h0 : 0 ≤ b) (h : b ≤ 64) : shl .u64 X b = up X b.toNat := by
  unfold shl up
  rw [show min b.toNat (IntKind.u64).bits = b.toNat from Nat.min_eq_left (by simp [IntKind.bits]; omega)]
theorem shr_down (k : IntKind) (hk : k.bits = 64) (X b : Int) (h0 : 0 ≤ b) (h : b ≤ 64) : shr k X b = X / 2 ^ b.toNat := by
  unfold shr
  rw [show min b.toNat k.bits = b.toNat from Nat.min_eq_left (by omega)]
theorem down_le (n : Int) (i : Nat) : (0 ≤ n → 0 ≤ n / 2 ^ i ∧ n / 2 ^ i ≤ n) ∧ (n < 0 → n ≤ n / 2 ^ i ∧ n / 2 ^ i < 0) := by
  have hp : (0 : Int) < 2 ^ i := Int.pow_pos (by decide)
  refine ⟨fun h => ⟨Int.ediv_nonneg h (by omega), Int.ediv_le_self _ h⟩, fun h => ⟨?_, ?_⟩⟩
  · apply Int.le_ediv_of_mul_le hp
    have : n * 2 ^ i ≤ n * 1 := Int.mul_le_mul_of_nonpos_left (by omega) (by omega)
    omega
  · exact Int.ediv_neg_of_neg_of_pos h hp
theorem into_u64_self {t n : Int} (ht : 3 ≤ t) (ht' : t ≤ 10) (h : n = into t (IntKind.u64.wrap n)) (z : Int) (h1 : 0 ≤ n → 0 ≤ z ∧ z ≤ n) (h2 : n < 0 → n ≤ z ∧ z < 0) (hs : 7 ≤ t) : into t (IntKind.u64.wrap z) = z := by
  rw [wrap_u64] at h ⊢
  rcases type_cases ht ht' with rfl | rfl | rfl | rfl | rfl | rfl | rfl | rfl
  iterate 4 omega
  all_goals
    simp only [into] at h ⊢
    simp at h ⊢
  · rw [md8] at h ⊢; omega
  · rw [md16] at h ⊢; omega
  · rw [md32] at h ⊢; omega
  · unfold wrap64 at h ⊢; omega
theorem ma8 (x y c : Int) : (x % 18446744073709551616 + y % 18446744073709551616 + c) % 256 = (x + y + c) % 256 := by omega
theorem ma16 (x y c : Int) : (x % 18446744073709551616 + y % 18446744073709551616 + c) % 65536 = (x + y + c) % 65536 := by omega
theorem ma32 (x y c : Int) : (x % 18446744073709551616 + y % 18446744073709551616 + c) % 4294967296 = (x + y + c) % 4294967296 := by omega
theorem into_add (t y z : Int) (h0 : 0 ≤ y) (h1 : y < 18446744073709551616) (h2 : 0 ≤ z) (h3 : z < 18446744073709551616) : into t (IntKind.u64.wrap (IntKind.u64.wrap (into t y) + IntKind.u64.wrap (into t z))) = into t (IntKind.u64.wrap (y + z)) := by
  unfold into
  simp only [wrap_u64]
  by_cases a : t = 3
  · simp only [a, if_true]; rw [md8z, md8z, ma8]; clear h0 h1 h2 h3; omega
  · by_cases b : t = 4
    · simp only [a, b, if_true, if_false]; rw [md16z, md16z, ma16]; clear h0 h1 h2 h3; omega
    · by_cases c : t = 5
      · simp only [a, b, c, if_true, if_false]; rw [md32z, md32z, ma32]; clear h0 h1 h2 h3; omega
      · by_cases d : t = 7
        · simp only [a, b, c, d, if_true, if_false]; rw [md8, md8, ma8]; clear h0 h1 h2 h3; omega
        · by_cases e : t = 8
          · simp only [a, b, c, d, e, if_true, if_false]; rw [md16, md16, ma16]; clear h0 h1 h2 h3; omega
          · by_cases f : t = 9
            · simp only [a, b, c, d, e, f, if_true, if_false]; rw [md32, md32, ma32]; clear h0 h1 h2 h3; omega
            · simp only [a, b, c, d, e, f, if_false]; rw [u64_wrap64 y h0 h1, u64_wrap64 z h2 h3]
theorem u64_bits (op : BinOp) (x y : Int) : 0 ≤ Go.bits op .u64 x y ∧ Go.bits op .u64 x y < 18446744073709551616 := u64_range _
/-- Both and one of both are all. -/
theorem and_xor (x y : Int) : IntKind.u64.wrap (Go.bits .and .u64 x y + Go.bits .xor .u64 x y) = Go.bits .or .u64 x y := by
  have e : (BitVec.ofInt 64 x &&& BitVec.ofInt 64 y) + (BitVec.ofInt 64 x ^^^ BitVec.ofInt 64 y) = BitVec.ofInt 64 x ||| BitVec.ofInt 64 y := by
    rw [BitVec.add_eq_or_of_and_eq_zero]
    · ext i; simp; cases (BitVec.ofInt 64 x)[i] <;> cases (BitVec.ofInt 64 y)[i] <;> (first | rfl | simp)
    · ext i; simp; cases (BitVec.ofInt 64 x)[i] <;> cases (BitVec.ofInt 64 y)[i] <;> (first | rfl | simp)
  have f := congrArg BitVec.toNat e
  rw [BitVec.toNat_add] at f
  have b : ∀ z : BitVec 64, IntKind.u64.wrap (z.toNat : Int) = (z.toNat : Int) := fun z => by
    have := z.isLt
    exact wraps_u64 _ (by omega) (by omega)
  show IntKind.u64.wrap (IntKind.u64.wrap ((BitVec.ofInt 64 x &&& BitVec.ofInt 64 y).toNat : Int) + IntKind.u64.wrap ((BitVec.ofInt 64 x ^^^ BitVec.ofInt 64 y).toNat : Int)) = IntKind.u64.wrap ((BitVec.ofInt 64 x ||| BitVec.ofInt 64 y).toNat : Int)
  rw [b, b, b, ← f, wrap_u64]
  omega
/-- Left beyond the type's bits nothing is left. -/
theorem up_past (t X : Int) : ∀ d : Nat, into t (up X ((ibits t).toNat + d)) = 0
  | 0 => up_full t X
  | d + 1 => by
    have h := up_past t X d
    have r := up_range X ((ibits t).toNat + d)
    rw [← Nat.add_assoc, up_succ, ← into_double t _ r.1 r.2, h]
    rw [show IntKind.u64.wrap 0 * 2 = 0 from rfl, show IntKind.u64.wrap 0 = 0 from rfl]
    exact into_zero t
theorem toList_none (s : ByteArray) : s.toList = [] ↔ s.size = 0 := by
  constructor
  · intro h
    have : s.toList.length = s.size := by simp [ByteArray.toList_eq]
    rw [h] at this; simpa using this.symm
  · intro h
    have : s.toList.length = s.size := by simp [ByteArray.toList_eq]
    rw [h] at this; exact List.eq_nil_of_length_eq_zero this
theorem valid_of {t z : Int} (ht : 3 ≤ t) (ht' : t ≤ 10) (h : z = into t (IntKind.u64.wrap z)) : valid t z ⟨#[]⟩ = true := by
  unfold valid
  rw [if_neg (by omega), if_neg (by omega)]
  have e : (⟨#[]⟩ : ByteArray).toList = ([] : List UInt8) := (toList_none _).2 rfl
  rw [e, ← h]; simp [ht, ht']
theorem into_back (t x : Int) (h0 : 0 ≤ x) (h1 : x < 18446744073709551616) : into t x = into t (IntKind.u64.wrap (into t x)) := by
  unfold into
  simp only [wrap_u64]
  by_cases a : t = 3
  · simp only [a, if_true]; rw [md8z]; clear h0 h1; omega
  · by_cases b : t = 4
    · simp only [a, b, if_true, if_false]; rw [md16z]; clear h0 h1; omega
    · by_cases c : t = 5
      · simp only [a, b, c, if_true, if_false]; rw [md32z]; clear h0 h1; omega
      · by_cases d : t = 7
        · simp only [a, b, c, d, if_true, if_false]; rw [md8]; clear h0 h1; omega
        · by_cases e : t = 8
          · simp only [a, b, c, d, e, if_true, if_false]; rw [md16]; clear h0 h1; omega
          · by_cases f : t = 9
            · simp only [a, b, c, d, e, f, if_true, if_false]; rw [md32]; clear h0 h1; omega
            · simp only [a, b, c, d, e, f, if_false]; rw [u64_wrap64 x h0 h1]
theorem small_back {t n : Int} (ht : 3 ≤ t) (ht' : t ≤ 10) (h0 : 0 ≤ n) (h1 : n ≤ 100) : n = into t (IntKind.u64.wrap n) := by
  rw [wrap_u64, show n % 18446744073709551616 = n from by omega]
  rcases type_cases ht ht' with rfl | rfl | rfl | rfl | rfl | rfl | rfl | rfl <;> simp [into] <;> (try unfold wrap64) <;> omega
end Go.Proofs.Ytajlomhnednghaa.B
/- The law FnBits answers true: or, and, either, and shifts of drawn numbers. Conditions: none. -/
namespace Go.Proofs.Ytajlomhnednghaa.B
open Go.RowKit Go.Proofs.YtajlomhnednghaaW.PrintWords Go.Proofs.YtajlomhnednghaaW.PrintLast Go.Proofs.YtajlomhnednghaaW.PrintMore Go.Proofs.Ytajlomhnednghaa.Arith
set_option linter.unusedVariables false
set_option linter.unusedSimpArgs false
/-! ### the draw ends -/
theorem drawn7 {s : List Int} (hs : Bytes s) {p : Int} (h0 : 0 ≤ p) (h1 : p ≤ 1000000) {k : Nat} (hk : 1 < k) (a b c : Int) (x : ByteArray) (d e : Int) (y : ByteArray) : ∃ r, spec_DrawBinary.j7 k a s p b c x d e y = some r := by
  obtain ⟨k, rfl⟩ : ∃ q, k = q + 1 := ⟨k - 1, by omega⟩
  obtain ⟨v, e1, _, _⟩ := pick_ok hs h0 (by omega) 24 (by omega) (show 0 < k by omega)
  obtain ⟨v2, e2, _, _⟩ := pick_ok hs (p := p + 1) (by omega) (by omega) 22 (by omega) (show 0 < k by omega)
  rw [spec_DrawBinary.j7, e1]
  simp only [Option.bind_some, e2]
  split <;> exact ⟨_, rfl⟩
theorem drawn6 {s : List Int} (hs : Bytes s) {p : Int} (h0 : 0 ≤ p) (h1 : p ≤ 1000000) {k : Nat} (hk : 2 < k) (a : Int) (u : Bool) (b c : Int) (x : ByteArray) (d e : Int) (y : ByteArray) : ∃ r, spec_DrawBinary.j6 k a u s p b c x d e y = some r := by
  obtain ⟨k, rfl⟩ : ∃ q, k = q + 1 := ⟨k - 1, by omega⟩
  rw [spec_DrawBinary.j6]
  split <;> exact drawn7 hs h0 h1 (by omega) ..
theorem drawn5 {s : List Int} (hs : Bytes s) {p : Int} (h0 : 0 ≤ p) (h1 : p ≤ 999990) {k : Nat} (hk : 3 < k) (a : Int) (b c : Int) (x : ByteArray) (d e : Int) (y : ByteArray) : ∃ r, spec_DrawBinary.j5 k a s p b c x d e y = some r := by
  obtain ⟨k, rfl⟩ : ∃ q, k = q + 1 := ⟨k - 1, by omega⟩
  obtain ⟨v, e1, _, _⟩ := pick_ok hs h0 (by omega) 4 (by omega) (show 0 < k by omega)
  rw [spec_DrawBinary.j5, e1]
  simp only [Option.bind_some]
  split
  · exact drawn6 hs (by omega) (by omega) (by omega) ..
  · exact drawn6 hs h0 (by omega) (by omega) ..
theorem drawn4 {s : List Int} (hs : Bytes s) {p : Int} (h0 : 0 ≤ p) (h1 : p ≤ 999900) {k : Nat} (hk : 80 < k) (a t : Int) (u : Bool) (b c : Int) (x : ByteArray) (d e : Int) (y : ByteArray) : ∃ r, spec_DrawBinary.j4 k a t u s p b c x d e y = some r := by
  obtain ⟨k, rfl⟩ : ∃ q, k = q + 1 := ⟨k - 1, by omega⟩
  obtain ⟨v, e1, v0, v1⟩ := pick_ok hs h0 (by omega) 8 (by omega) (show 0 < k by omega)
  obtain ⟨w, e2, w0, w1⟩ := pick_ok hs (p := p + 1) (by omega) (by omega) 3 (by omega) (show 0 < k by omega)
  obtain ⟨m, em, _, _⟩ := max_ok t (show 70 < k by omega)
  rw [spec_DrawBinary.j4, e1]
  simp only [Option.bind_some, e2, em]
  have l8 : v < (([8, 16, 32, 64, 7, 15, 31, 63] : List Int).length : Int) := by simpa using v1
  have l3 : w < (([1, 5, 100] : List Int).length : Int) := by simpa using w1
  rw [if_pos v0, if_pos l8, if_pos w0, if_pos l3]
  repeat (first | exact drawn5 hs (by omega) (by omega) (by omega) .. | split)
theorem drawn3 {s : List Int} (hs : Bytes s) {p : Int} (h0 : 0 ≤ p) (h1 : p ≤ 999800) {k : Nat} (hk : 81 < k) (a t : Int) (b c : Int) (x : ByteArray) (d e : Int) (y : ByteArray) : ∃ r, spec_DrawBinary.j3 k a t s p b c x d e y = some r := by
  obtain ⟨k, rfl⟩ : ∃ q, k = q + 1 := ⟨k - 1, by omega⟩
  obtain ⟨v, e1, v0, v1⟩ := pick_ok hs h0 (by omega) 6 (by omega) (show 0 < k by omega)
  obtain ⟨i, hi⟩ : ∃ i, spec_l1Integer.f d = some i := by unfold spec_l1Integer.f; split <;> exact ⟨_, rfl⟩
  rw [spec_DrawBinary.j3, hi]
  simp only [Option.bind_some, e1]
  repeat (first | exact drawn4 hs (by omega) (by omega) (by omega) .. | split)
theorem drawn2 {s : List Int} (hs : Bytes s) {p : Int} (h0 : 0 ≤ p) (h1 : p ≤ 999700) {k : Nat} (hk : 82 < k) (a t : Int) (u : Bool) (b c : Int) (x : ByteArray) (d e : Int) (y : ByteArray) : ∃ r, spec_DrawBinary.j2 k a t u s p b c x d e y = some r := by
  obtain ⟨k, rfl⟩ : ∃ q, k = q + 1 := ⟨k - 1, by omega⟩
  obtain ⟨v, e1, v0, v1⟩ := pick_ok hs h0 (by omega) 70 (by omega) (show 0 < k by omega)
  obtain ⟨m, em, m0, m1⟩ := max_ok t (show 70 < k by omega)
  have h71 := mod_pick (x := m) (n := 71) m0 (by omega)
  have e71 : wrap64 (IntKind.u64.wrap (Int.tmod m 71 + 1)) = Int.tmod m 71 + 1 := by
    rw [wrap_u64]; generalize Int.tmod m 71 = z at h71; rw [show (z + 1) % 18446744073709551616 = z + 1 from by omega]; exact wrap_id (by omega) (by omega)
  rw [spec_DrawBinary.j2, e1]
  simp only [Option.bind_some, em, e71]
  rw [if_neg (c := Int.tmod m 71 + 1 = 0) (by omega)]
  split <;> exact drawn3 hs (by omega) (by omega) (by omega) ..
theorem drawn1 {s : List Int} (hs : Bytes s) {p : Int} (h0 : 0 ≤ p) (h1 : p ≤ 999500) {k : Nat} (hk : 83 < k) (a t : Int) (b c : Int) (x : ByteArray) : ∃ r, spec_DrawBinary.j1 k a t s p b c x = some r := by
  obtain ⟨k, rfl⟩ : ∃ q, k = q + 1 := ⟨k - 1, by omega⟩
  obtain ⟨t', n, y, p', e1, l1, l2⟩ := any_ok hs h0 (by omega) t (show 70 < k by omega)
  obtain ⟨v, e2, v0, v1⟩ := pick_ok hs (p := p') (by omega) (by omega) 2 (by omega) (show 0 < k by omega)
  obtain ⟨i, hi⟩ : ∃ i, spec_l1Integer.f t' = some i := by unfold spec_l1Integer.f; split <;> exact ⟨_, rfl⟩
  rw [spec_DrawBinary.j1, e1]
  simp only [Option.bind_some, e2, hi]
  repeat (first | exact drawn2 hs (by omega) (by omega) (by omega) .. | split)
theorem drawn0 {s : List Int} (hs : Bytes s) {p : Int} (h0 : 0 ≤ p) (h1 : p ≤ 999000) {k : Nat} (hk : 84 < k) (a t : Int) : ∃ r, spec_DrawBinary.j0 k a t s p = some r := by
  obtain ⟨k, rfl⟩ : ∃ q, k = q + 1 := ⟨k - 1, by omega⟩
  obtain ⟨t', n, y, p', e1, l1, l2⟩ := any_ok hs h0 (by omega) t (show 70 < k by omega)
  obtain ⟨v, e2, v0, v1⟩ := pick_ok hs (p := p') (by omega) (by omega) 16 (by omega) (show 0 < k by omega)
  obtain ⟨w, e3, w0, w1⟩ := pick_ok hs (p := p' + 1) (by omega) (by omega) 10 (by omega) (show 0 < k by omega)
  rw [spec_DrawBinary.j0, e1]
  simp only [Option.bind_some, e2, e3]
  split <;> exact drawn1 hs (by omega) (by omega) (by omega) ..
theorem drawn (l : List Int) (hl : l.length ≤ maxLen) (hb : ∀ x ∈ l, (Lit.int .u8 x).wf = true) {k : Nat} (hk : 84 < k) : ∃ r, spec_DrawBinary.f k l = some r := by
  obtain ⟨s, es, hs⟩ := open_ok l hl hb
  obtain ⟨v, e1, v0, v1⟩ := pick_ok hs (p := 0) (by omega) (by omega) 18 (by omega) (show 0 < k by omega)
  obtain ⟨w, e2, w0, w1⟩ := pick_ok hs (p := 0 + 1) (by omega) (by omega) 8 (by omega) (show 0 < k by omega)
  obtain ⟨z, e3, z0, z1⟩ := pick_ok hs (p := 0 + 1 + 1) (by omega) (by omega) 3 (by omega) (show 0 < k by omega)
  unfold spec_DrawBinary.f
  rw [es]
  simp only [Option.bind_some, e1, e2, e3]
  repeat (first | exact drawn0 hs (by omega) (by omega) (by omega) .. | split)

/-! ### what the program's Binary makes of two numbers of one type -/
theorem bin_type_num (q op t : Int) (k : Nat) (ht : 3 ≤ t) (ht' : t ≤ 10) (hop : op = 9 ∨ op = 11 ∨ op = 12 ∨ op = 16 ∨ op = 17 ∨ op = 18) : impl_binType.f (k + 10) op t t = some t := by
  have h0 : (t == 0) = false := by simp; omega
  have hi : impl_integer.f t = some true := by unfold impl_integer.f; rw [if_pos (by omega), decide_eq_true ht']
  unfold impl_binType.f
  rw [if_pos rfl, h0, impl_binType.j0]
  rcases hop with rfl | rfl | rfl | rfl | rfl | rfl <;> simp [impl_binType.j1, impl_binType.j2, impl_binType.j3, impl_binType.j4, hi]
theorem bin_enter (q : Nat) (op t a b : Int) (s s' : ByteArray) (ht : 3 ≤ t) (ht' : t ≤ 10) (ha : valid t a s = true) (hb : valid t b s' = true) (hop : op = 9 ∨ op = 11 ∨ op = 12 ∨ op = 16 ∨ op = 17 ∨ op = 18) :
    impl_Binary.f (q + 20) op t a s t b s' = impl_Binary.j0 (q + 20) op false t a s t b s' := by
  have h0 : (t == 0) = false := by simp; omega
  unfold impl_Binary.f
  rw [implValid (q + 18) t a s, ha, implValid (q + 18) t b s', hb]
  simp only [Option.bind_some, if_true]
  rw [bin_type_num 0 op t (q + 10) ht ht' hop]
  simp only [Option.bind_some, h0]
theorem bin_num (q : Nat) (t a b : Int) (s s' : ByteArray) (ht : 3 ≤ t) (ht' : t ≤ 10) (ha : valid t a s = true) (hb : valid t b s' = true) :
    impl_Binary.f (q + 20) 9 t a s t b s' = some (t, into t (IntKind.u64.wrap (IntKind.u64.wrap a + IntKind.u64.wrap b)), ⟨#[]⟩, ⟨#[]⟩)
    ∧ impl_Binary.f (q + 20) 11 t a s t b s' = some (t, into t (Go.bits .or .u64 (IntKind.u64.wrap a) (IntKind.u64.wrap b)), ⟨#[]⟩, ⟨#[]⟩)
    ∧ impl_Binary.f (q + 20) 12 t a s t b s' = some (t, into t (Go.bits .xor .u64 (IntKind.u64.wrap a) (IntKind.u64.wrap b)), ⟨#[]⟩, ⟨#[]⟩)
    ∧ impl_Binary.f (q + 20) 16 t a s t b s' = some (t, into t (Go.bits .and .u64 (IntKind.u64.wrap a) (IntKind.u64.wrap b)), ⟨#[]⟩, ⟨#[]⟩) := by
  have n2 : ¬ t = 2 := by omega
  refine ⟨?_, ?_, ?_, ?_⟩
  · rw [bin_enter q _ t a b s s' ht ht' ha hb (by omega), impl_Binary.j0]
    simp only [Bool.false_eq_true, if_false, n2, if_true, implInto (q + 17) t _ (u64_range _).1 (u64_range _).2, Option.bind_some, show ¬ (9 : Int) = 1 from by decide, show ¬ (9 : Int) = 2 from by decide, show ¬ (9 : Int) = 3 from by decide, show ¬ (9 : Int) = 4 from by decide, show ¬ (9 : Int) = 5 from by decide, show ¬ (9 : Int) = 6 from by decide, show ¬ (9 : Int) = 7 from by decide, show ¬ (9 : Int) = 8 from by decide]
  · rw [bin_enter q _ t a b s s' ht ht' ha hb (by omega), impl_Binary.j0]
    simp only [Bool.false_eq_true, if_false, n2, if_true, implInto (q + 17) t _ (u64_bits .or _ _).1 (u64_bits .or _ _).2, Option.bind_some, show ¬ (11 : Int) = 1 from by decide, show ¬ (11 : Int) = 2 from by decide, show ¬ (11 : Int) = 3 from by decide, show ¬ (11 : Int) = 4 from by decide, show ¬ (11 : Int) = 5 from by decide, show ¬ (11 : Int) = 6 from by decide, show ¬ (11 : Int) = 7 from by decide, show ¬ (11 : Int) = 8 from by decide, show ¬ (11 : Int) = 9 from by decide, show ¬ (11 : Int) = 10 from by decide, show ¬ (11 : Int) = 13 from by decide]
  · rw [bin_enter q _ t a b s s' ht ht' ha hb (by omega), impl_Binary.j0]
    simp only [Bool.false_eq_true, if_false, n2, if_true, implInto (q + 17) t _ (u64_bits .xor _ _).1 (u64_bits .xor _ _).2, Option.bind_some, show ¬ (12 : Int) = 1 from by decide, show ¬ (12 : Int) = 2 from by decide, show ¬ (12 : Int) = 3 from by decide, show ¬ (12 : Int) = 4 from by decide, show ¬ (12 : Int) = 5 from by decide, show ¬ (12 : Int) = 6 from by decide, show ¬ (12 : Int) = 7 from by decide, show ¬ (12 : Int) = 8 from by decide, show ¬ (12 : Int) = 9 from by decide, show ¬ (12 : Int) = 10 from by decide, show ¬ (12 : Int) = 13 from by decide, show ¬ (12 : Int) = 11 from by decide]
  · rw [bin_enter q _ t a b s s' ht ht' ha hb (by omega), impl_Binary.j0]
    simp only [Bool.false_eq_true, if_false, n2, if_true, implInto (q + 17) t _ (u64_bits .and _ _).1 (u64_bits .and _ _).2, Option.bind_some, show ¬ (16 : Int) = 1 from by decide, show ¬ (16 : Int) = 2 from by decide, show ¬ (16 : Int) = 3 from by decide, show ¬ (16 : Int) = 4 from by decide, show ¬ (16 : Int) = 5 from by decide, show ¬ (16 : Int) = 6 from by decide, show ¬ (16 : Int) = 7 from by decide, show ¬ (16 : Int) = 8 from by decide, show ¬ (16 : Int) = 9 from by decide, show ¬ (16 : Int) = 10 from by decide, show ¬ (16 : Int) = 13 from by decide, show ¬ (16 : Int) = 11 from by decide, show ¬ (16 : Int) = 12 from by decide]
theorem bin_shift (q : Nat) (op t a b : Int) (s s' : ByteArray) (ht : 3 ≤ t) (ht' : t ≤ 10) (ha : valid t a s = true) (hb : valid t b s' = true) (hop : op = 17 ∨ op = 18) (z : Int) (hz : impl_shift.f (q + 18) op t a s t b s' = some z) (h0 : 0 ≤ z) (h1 : z < 18446744073709551616) :
    impl_Binary.f (q + 20) op t a s t b s' = some (t, into t z, ⟨#[]⟩, ⟨#[]⟩) := by
  have n2 : ¬ t = 2 := by omega
  rw [bin_enter q op t a b s s' ht ht' ha hb (by omega), impl_Binary.j0]
  rcases hop with rfl | rfl
  · simp only [Bool.false_eq_true, if_false, n2, show ¬ (17 : Int) = 1 from by decide, show ¬ (17 : Int) = 2 from by decide, show ¬ (17 : Int) = 3 from by decide, show ¬ (17 : Int) = 4 from by decide, show ¬ (17 : Int) = 5 from by decide, show ¬ (17 : Int) = 6 from by decide, show ¬ (17 : Int) = 7 from by decide, show ¬ (17 : Int) = 8 from by decide, show ¬ (17 : Int) = 9 from by decide, show ¬ (17 : Int) = 10 from by decide, show ¬ (17 : Int) = 13 from by decide, show ¬ (17 : Int) = 11 from by decide, show ¬ (17 : Int) = 12 from by decide, show ¬ (17 : Int) = 16 from by decide, show ¬ (17 : Int) = 14 from by decide]
    rw [show ((17 : Int) == 15) = false from by decide, impl_Binary.j1]
    simp only [Bool.false_eq_true, if_false, hz, Option.bind_some, implInto (q + 16) t z h0 h1]
  · simp only [Bool.false_eq_true, if_false, n2, show ¬ (18 : Int) = 1 from by decide, show ¬ (18 : Int) = 2 from by decide, show ¬ (18 : Int) = 3 from by decide, show ¬ (18 : Int) = 4 from by decide, show ¬ (18 : Int) = 5 from by decide, show ¬ (18 : Int) = 6 from by decide, show ¬ (18 : Int) = 7 from by decide, show ¬ (18 : Int) = 8 from by decide, show ¬ (18 : Int) = 9 from by decide, show ¬ (18 : Int) = 10 from by decide, show ¬ (18 : Int) = 13 from by decide, show ¬ (18 : Int) = 11 from by decide, show ¬ (18 : Int) = 12 from by decide, show ¬ (18 : Int) = 16 from by decide, show ¬ (18 : Int) = 14 from by decide]
    rw [show ((18 : Int) == 15) = false from by decide, impl_Binary.j1]
    simp only [Bool.false_eq_true, if_false, hz, Option.bind_some, implInto (q + 16) t z h0 h1]
theorem two_le {n m : Nat} (h : n ≤ m) : (2 : Int) ^ n ≤ 2 ^ m := by
  have := Nat.pow_le_pow_right (show 2 > 0 by decide) h
  exact_mod_cast this
theorem num_valid {t n : Int} {s : ByteArray} (ht : 3 ≤ t) (ht' : t ≤ 10) (h : valid t n s = true) : n = into t (IntKind.u64.wrap n) ∧ s.toList = [] :=
  (valid_into h (by omega) (by omega)).2.2
theorem valid_num (t x : Int) (ht : 3 ≤ t) (ht' : t ≤ 10) (h0 : 0 ≤ x) (h1 : x < 18446744073709551616) : valid t (into t x) ⟨#[]⟩ = true := valid_of ht ht' (into_back t x h0 h1)
theorem shift_enter (q : Nat) (op t a b : Int) (s s' : ByteArray) (ht : 3 ≤ t) (ht' : t ≤ 10) (h0 : 0 ≤ b) (h1 : b ≤ 71) :
    impl_shift.f (q + 18) op t a s t b s' = impl_shift.j1 (q + 17) op (decide (b ≥ ibits t)) t a s t b s' := by
  obtain ⟨sg, hsg⟩ : ∃ g, impl_signed.f t = some g := ⟨_, rfl⟩
  have hw : IntKind.u64.wrap b = b := by rw [wrap_u64]; omega
  have hn : decide (b < 0) = false := decide_eq_false (by omega)
  unfold impl_shift.f
  rw [implBits (q + 16) t, hsg]
  simp only [Option.bind_some, hn]
  have e : impl_shift.j0 (q + 18) op (ibits t) false t a s t b s' = impl_shift.j1 (q + 17) op (decide (b ≥ ibits t)) t a s t b s' := by
    rw [impl_shift.j0, if_neg (by decide), hw]
  rw [e]
  cases sg <;> rfl
theorem shl_val (q : Nat) (t a b : Int) (s s' : ByteArray) (ht : 3 ≤ t) (ht' : t ≤ 10) (ha : valid t a s = true) (hb : valid t b s' = true) (h0 : 0 ≤ b) (h1 : b ≤ 71) :
    impl_Binary.f (q + 20) 17 t a s t b s' = some (t, into t (up (IntKind.u64.wrap a) b.toNat), ⟨#[]⟩, ⟨#[]⟩) := by
  have hm := bits_le t
  have hw : IntKind.u64.wrap b = b := by rw [wrap_u64]; omega
  by_cases c : b ≥ ibits t
  · have e : impl_shift.f (q + 18) 17 t a s t b s' = some 0 := by
      rw [shift_enter q 17 t a b s s' ht ht' h0 h1, decide_eq_true c, impl_shift.j1]; rfl
    rw [bin_shift q 17 t a b s s' ht ht' ha hb (by omega) 0 e (by omega) (by omega), into_zero]
    have := up_past t (IntKind.u64.wrap a) (b.toNat - (ibits t).toNat)
    rw [show (ibits t).toNat + (b.toNat - (ibits t).toNat) = b.toNat from by omega] at this
    rw [this]
  · have e : impl_shift.f (q + 18) 17 t a s t b s' = some (up (IntKind.u64.wrap a) b.toNat) := by
      rw [shift_enter q 17 t a b s s' ht ht' h0 h1, decide_eq_false c, impl_shift.j1, if_neg (by decide), if_pos rfl, hw, if_pos h0, shl_up _ b h0 (by omega)]
    exact bin_shift q 17 t a b s s' ht ht' ha hb (by omega) _ e (up_range _ _).1 (up_range _ _).2
theorem shr_signed (q : Nat) (t a b : Int) (s s' : ByteArray) (ht : 7 ≤ t) (ht' : t ≤ 10) (ha : valid t a s = true) (hb : valid t b s' = true) (h0 : 0 ≤ b) (h1 : b ≤ 71) :
    impl_Binary.f (q + 20) 18 t a s t b s' = some (t, a / 2 ^ b.toNat, ⟨#[]⟩, ⟨#[]⟩) := by
  have hm := bits_le t
  have hw : IntKind.u64.wrap b = b := by rw [wrap_u64]; omega
  have hsg : impl_signed.f t = some true := by unfold impl_signed.f; simp; omega
  obtain ⟨hn, _⟩ := num_valid (by omega) ht' ha
  have hd := down_le a b.toNat
  have hi := into_u64_self (by omega) ht' hn (a / 2 ^ b.toNat) hd.1 hd.2 ht
  by_cases c : b ≥ ibits t
  · have hp : a / 2 ^ b.toNat = if a < 0 then -1 else 0 := by
      have hr : -(2 ^ b.toNat : Int) ≤ a ∧ a < 2 ^ b.toNat := by
        have hpow : (2 : Int) ^ (ibits t).toNat ≤ 2 ^ b.toNat := two_le (by omega)
        have : -(2 ^ (ibits t).toNat : Int) ≤ a ∧ a < 2 ^ (ibits t).toNat := by
          rw [hn]
          rcases type_cases (show 3 ≤ t by omega) ht' with rfl | rfl | rfl | rfl | rfl | rfl | rfl | rfl
          iterate 4 omega
          · rw [show (2 : Int) ^ (ibits 7).toNat = 256 from by decide]; simp [into]; omega
          · rw [show (2 : Int) ^ (ibits 8).toNat = 65536 from by decide]; simp [into]; omega
          · rw [show (2 : Int) ^ (ibits 9).toNat = 4294967296 from by decide]; simp [into]; omega
          · rw [show (2 : Int) ^ (ibits 10).toNat = 18446744073709551616 from by decide]; simp [into]; unfold wrap64; omega
        omega
      have hpos : (0 : Int) < 2 ^ b.toNat := Int.pow_pos (by decide)
      generalize (2 : Int) ^ b.toNat = P at hr hpos
      split
      · have := Int.ediv_neg_of_neg_of_pos (show a < 0 by assumption) hpos
        have h2 : -1 ≤ a / P := Int.le_ediv_of_mul_le hpos (by omega)
        omega
      · exact Int.ediv_eq_zero_of_lt (by omega) hr.2
    have e : impl_shift.f (q + 18) 18 t a s t b s' = some (IntKind.u64.wrap (a / 2 ^ b.toNat)) := by
      rw [shift_enter q 18 t a b s s' (by omega) ht' h0 h1, decide_eq_true c, impl_shift.j1, if_pos rfl, if_pos rfl, hsg, hp]
      simp only [Option.bind_some, if_true]
      split <;> rfl
    rw [bin_shift q 18 t a b s s' (by omega) ht' ha hb (by omega) _ e (u64_range _).1 (u64_range _).2, hi]
  · have e : impl_shift.f (q + 18) 18 t a s t b s' = some (IntKind.u64.wrap (a / 2 ^ b.toNat)) := by
      rw [shift_enter q 18 t a b s s' (by omega) ht' h0 h1, decide_eq_false c, impl_shift.j1, if_neg (by decide), if_neg (by decide), hsg]
      simp only [Option.bind_some, if_true]
      rw [hw, if_pos h0, shr_down .i64 rfl a b h0 (by omega)]
    rw [bin_shift q 18 t a b s s' (by omega) ht' ha hb (by omega) _ e (u64_range _).1 (u64_range _).2, hi]
/-- A number without a sign, as its bits. -/
theorem unsigned_back {t x : Int} (ht : 3 ≤ t) (ht' : t < 7) (h0 : 0 ≤ x) (h1 : x < 2 ^ (ibits t).toNat) : IntKind.u64.wrap (into t x) = x := by
  rw [wrap_u64]
  have : t = 3 ∨ t = 4 ∨ t = 5 ∨ t = 6 := by omega
  rcases this with rfl | rfl | rfl | rfl
  · rw [show (2 : Int) ^ (ibits 3).toNat = 256 from by decide] at h1; simp [into]; omega
  · rw [show (2 : Int) ^ (ibits 4).toNat = 65536 from by decide] at h1; simp [into]; omega
  · rw [show (2 : Int) ^ (ibits 5).toNat = 4294967296 from by decide] at h1; simp [into]; omega
  · rw [show (2 : Int) ^ (ibits 6).toNat = 18446744073709551616 from by decide] at h1; simp [into]; unfold wrap64; omega
theorem unsigned_small {t a : Int} (ht : 3 ≤ t) (ht' : t < 7) (h : a = into t (IntKind.u64.wrap a)) : IntKind.u64.wrap a < 2 ^ (ibits t).toNat := by
  rw [wrap_u64] at h ⊢
  have : t = 3 ∨ t = 4 ∨ t = 5 ∨ t = 6 := by omega
  rcases this with rfl | rfl | rfl | rfl
  · rw [show (2 : Int) ^ (ibits 3).toNat = 256 from by decide]; simp [into] at h; omega
  · rw [show (2 : Int) ^ (ibits 4).toNat = 65536 from by decide]; simp [into] at h; omega
  · rw [show (2 : Int) ^ (ibits 5).toNat = 4294967296 from by decide]; simp [into] at h; omega
  · rw [show (2 : Int) ^ (ibits 6).toNat = 18446744073709551616 from by decide]; omega
theorem shr_unsigned (q : Nat) (t a b : Int) (s s' : ByteArray) (ht : 3 ≤ t) (ht' : t < 7) (ha : valid t a s = true) (hb : valid t b s' = true) (h0 : 0 ≤ b) (h1 : b ≤ 71) :
    impl_Binary.f (q + 20) 18 t a s t b s' = some (t, into t (IntKind.u64.wrap a / 2 ^ b.toNat), ⟨#[]⟩, ⟨#[]⟩) := by
  have hm := bits_le t
  have hw : IntKind.u64.wrap b = b := by rw [wrap_u64]; omega
  have hsg : impl_signed.f t = some false := by unfold impl_signed.f; simp; omega
  obtain ⟨hn, _⟩ := num_valid ht (by omega) ha
  have hr := u64_range a
  have hdr := down_range (IntKind.u64.wrap a) hr.1 hr.2 b.toNat
  by_cases c : b ≥ ibits t
  · have hz : IntKind.u64.wrap a / 2 ^ b.toNat = 0 := by
      have hpow : (2 : Int) ^ (ibits t).toNat ≤ 2 ^ b.toNat := two_le (by omega)
      have := unsigned_small ht ht' hn
      exact Int.ediv_eq_zero_of_lt hr.1 (by omega)
    have e : impl_shift.f (q + 18) 18 t a s t b s' = some (IntKind.u64.wrap a / 2 ^ b.toNat) := by
      rw [shift_enter q 18 t a b s s' ht (by omega) h0 h1, decide_eq_true c, impl_shift.j1, if_pos rfl, if_pos rfl, hsg, hz]
      rfl
    exact bin_shift q 18 t a b s s' ht (by omega) ha hb (by omega) _ e hdr.1 hdr.2
  · have e : impl_shift.f (q + 18) 18 t a s t b s' = some (IntKind.u64.wrap a / 2 ^ b.toNat) := by
      rw [shift_enter q 18 t a b s s' ht (by omega) h0 h1, decide_eq_false c, impl_shift.j1, if_neg (by decide), if_neg (by decide), hsg]
      simp only [Option.bind_some, Bool.false_eq_true, if_false]
      rw [hw, if_pos h0, shr_down .u64 rfl _ b h0 (by omega)]
    exact bin_shift q 18 t a b s s' ht (by omega) ha hb (by omega) _ e hdr.1 hdr.2
theorem nat_succ {b : Int} (h : 0 ≤ b) : (b + 1).toNat = b.toNat + 1 := by omega
/-- By b, then by one, is by b + 1. -/
theorem shift_steps (q : Nat) (op t a b : Int) (s : ByteArray) (ht : 3 ≤ t) (ht' : t ≤ 10) (ha : valid t a s = true) (h0 : 0 ≤ b) (h1 : b ≤ 70) (hop : op = 17 ∨ op = 18) :
    ∃ p r, impl_Binary.f (q + 20) op t a s t b ⟨#[]⟩ = some (t, p, ⟨#[]⟩, ⟨#[]⟩) ∧ impl_Binary.f (q + 20) op t p ⟨#[]⟩ t 1 ⟨#[]⟩ = some (t, r, ⟨#[]⟩, ⟨#[]⟩) ∧ impl_Binary.f (q + 20) op t a s t (b + 1) ⟨#[]⟩ = some (t, r, ⟨#[]⟩, ⟨#[]⟩) := by
  have vb : valid t b ⟨#[]⟩ = true := valid_of ht ht' (small_back ht ht' h0 (by omega))
  have v1 : valid t 1 ⟨#[]⟩ = true := valid_of ht ht' (small_back ht ht' (by omega) (by omega))
  have vs : valid t (b + 1) ⟨#[]⟩ = true := valid_of ht ht' (small_back ht ht' (by omega) (by omega))
  obtain ⟨hn, _⟩ := num_valid ht ht' ha
  have hr := u64_range a
  rcases hop with rfl | rfl
  · have ur := up_range (IntKind.u64.wrap a) b.toNat
    have vp := valid_num t _ ht ht' ur.1 ur.2
    refine ⟨_, _, shl_val q t a b s _ ht ht' ha vb h0 (by omega), shl_val q t _ 1 _ _ ht ht' vp v1 (by omega) (by omega), ?_⟩
    rw [shl_val q t a (b + 1) s _ ht ht' ha vs (by omega) (by omega), nat_succ h0, up_succ, ← into_double t _ ur.1 ur.2]
    rfl
  · by_cases hs : 7 ≤ t
    · have vp : valid t (a / 2 ^ b.toNat) ⟨#[]⟩ = true := valid_of ht ht' (into_u64_self ht ht' hn _ (down_le a b.toNat).1 (down_le a b.toNat).2 hs).symm
      refine ⟨_, _, shr_signed q t a b s _ hs ht' ha vb h0 (by omega), shr_signed q t _ 1 _ _ hs ht' vp v1 (by omega) (by omega), ?_⟩
      rw [shr_signed q t a (b + 1) s _ hs ht' ha vs (by omega) (by omega), nat_succ h0, down_succ]
      rfl
    · have dr := down_range _ hr.1 hr.2 b.toNat
      have vp := valid_num t _ ht ht' dr.1 dr.2
      have sm := unsigned_small ht (by omega) hn
      have le := ((down_le (IntKind.u64.wrap a) b.toNat).1 hr.1)
      refine ⟨_, _, shr_unsigned q t a b s _ ht (by omega) ha vb h0 (by omega), shr_unsigned q t _ 1 _ _ ht (by omega) vp v1 (by omega) (by omega), ?_⟩
      rw [shr_unsigned q t a (b + 1) s _ ht (by omega) ha vs (by omega) (by omega), nat_succ h0, down_succ, unsigned_back ht (by omega) le.1 (by omega)]
      rfl
/-! ### the law -/
theorem empties : ((⟨#[]⟩ : ByteArray) ++ (⟨#[]⟩ : ByteArray)) = (⟨#[]⟩ : ByteArray) := rfl
theorem empty_list : (⟨#[]⟩ : ByteArray).toList = ([] : List UInt8) := (toList_none _).2 rfl
theorem bits_loop (q : Nat) (t a b : Int) (s : ByteArray) (ht : 3 ≤ t) (ht' : t ≤ 10) (ha : valid t a s = true) (h0 : 0 ≤ b) (h1 : b ≤ 70) : laws_FnBits.l0 (q + 30) b 17 t a s = some true := by
  have hw : wrap64 (b + 1) = b + 1 := wrap_id (by omega) (by omega)
  have hz : ((⟨#[]⟩ : ByteArray).size) + ((⟨#[]⟩ : ByteArray).size) ≤ 9223372036854775807 := by decide
  obtain ⟨p, r, e1, e2, e3⟩ := shift_steps (q + 9) 17 t a b s ht ht' ha h0 h1 (.inl rfl)
  obtain ⟨p', r', f1, f2, f3⟩ := shift_steps (q + 8) 18 t a b s ht ht' ha h0 h1 (.inr rfl)
  have g1 : laws_FnBits.l0 (q + 30) b 17 t a s = laws_FnBits.l0 (q + 29) b 18 t a s := by
    rw [laws_FnBits.l0, if_pos (by decide), e1]
    simp only [Option.bind_some]
    rw [e2, hw, e3]
    simp only [Option.bind_some, empties]
    rw [if_pos hz, if_pos hz, if_pos empty_list, if_neg (by simp), show wrap64 (17 + 1) = 18 from wrap_id (by decide) (by decide)]
  have g2 : laws_FnBits.l0 (q + 29) b 18 t a s = laws_FnBits.l0 (q + 28) b 19 t a s := by
    rw [laws_FnBits.l0, if_pos (by decide), f1]
    simp only [Option.bind_some]
    rw [f2, hw, f3]
    simp only [Option.bind_some, empties]
    rw [if_pos hz, if_pos hz, if_pos empty_list, if_neg (by simp), show wrap64 (18 + 1) = 19 from wrap_id (by decide) (by decide)]
  rw [g1, g2, laws_FnBits.l0, if_neg (by decide)]
theorem bits_nums (q : Nat) (l : List Int) (hl : l.length ≤ 1048576) (t a b : Int) (s s' : ByteArray) (ht : 3 ≤ t) (ht' : t ≤ 10) (ha : valid t a s = true) (hb : valid t b s' = true) : laws_FnBits.j0 (q + 40) l false t a s t b s' = some true := by
  obtain ⟨_, n11, n12, n16⟩ := bin_num (q + 19) t a b s s' ht ht' ha hb
  have ra := u64_bits .and (IntKind.u64.wrap a) (IntKind.u64.wrap b)
  have rx := u64_bits .xor (IntKind.u64.wrap a) (IntKind.u64.wrap b)
  obtain ⟨n9, _, _, _⟩ := bin_num (q + 19) t _ _ _ _ ht ht' (valid_num t _ ht ht' ra.1 ra.2) (valid_num t _ ht ht' rx.1 rx.2)
  rw [into_add t _ _ ra.1 ra.2 rx.1 rx.2, and_xor] at n9
  have hz : ((⟨#[]⟩ : ByteArray).size) + ((⟨#[]⟩ : ByteArray).size) ≤ 9223372036854775807 := by decide
  have hk : 0 ≤ (l.length : Int) % 70 ∧ (l.length : Int) % 70 ≤ 70 := by omega
  rw [laws_FnBits.j0, if_neg (by decide), n11]
  simp only [Option.bind_some]
  rw [n16]
  simp only [Option.bind_some]
  rw [n12]
  simp only [Option.bind_some]
  rw [n9]
  simp only [Option.bind_some, empties]
  rw [if_pos hz, if_pos hz, if_pos hz, if_pos empty_list]
  simp only [beq_self_eq_true, Bool.not_true, Bool.or_self]
  rw [laws_FnBits.j1, if_neg (by decide)]
  exact bits_loop (q + 8) t a _ s ht ht' ha hk.1 hk.2
theorem bits_rest (q : Nat) (l : List Int) (t a u b : Int) (s s' : ByteArray) : laws_FnBits.j0 (q + 40) l true t a s u b s' = some true := by
  rw [laws_FnBits.j0, if_pos rfl, implValid (q + 37), specValid (q + 37), implValid (q + 37), specValid (q + 37)]
  simp
end Go.Proofs.Ytajlomhnednghaa.B
namespace Go.Proofs.Ytajlomhnednghaa.Pure
open Go.RowKit Go.Proofs.Ytajlomhnednghaa.B Go.Proofs.YtajlomhnednghaaW.PrintWords Go.Proofs.YtajlomhnednghaaW.PrintLast Go.Proofs.YtajlomhnednghaaW.PrintMore Go.Proofs.Ytajlomhnednghaa.Arith
set_option linter.unusedVariables false
theorem FnBits : laws_FnBits.Pure := by
  intro l hl _ hb
  refine ⟨160, ?_⟩
  unfold laws_FnBits.f
  by_cases c : (l.length : Int) > 1048576
  · rw [if_pos c]
  · rw [if_neg c]
    obtain ⟨⟨op, t, a, s, u, b, s'⟩, e⟩ := drawn l hl hb (show 84 < 160 by omega)
    rw [e]
    simp only [Option.bind_some]
    rw [specValid 158]
    simp only [Option.bind_some]
    have rest := bits_rest 120 l t a u b s s'
    cases va : valid t a s with
    | false => simp only [Bool.false_eq_true, if_false]; exact rest
    | true =>
      simp only [if_true]
      rw [specValid 158]
      simp only [Option.bind_some]
      cases vb : valid u b s' with
      | false => simp only [Bool.false_eq_true, if_false]; exact rest
      | true =>
        simp only [if_true]
        by_cases tu : t = u
        · subst tu
          rw [if_pos rfl]
          by_cases lo : t < 3
          · rw [decide_eq_true lo]; exact rest
          · rw [decide_eq_false lo]
            have vt := valid_into va (by omega) (by omega)
            exact bits_nums 120 l (by omega) t a b s s' vt.1 vt.2.1 va vb
        · rw [if_neg tu]; exact rest
end Go.Proofs.Ytajlomhnednghaa.Pure
namespace Go.Proofs.Ytajlomhnednghaa.fnBits
open Go.ChangeShapes Go.WideShapes Go.ChangeAt Go.RowKit
open Go.ChangeMaps (open_string shut_string)
set_option linter.unusedVariables false
theorem own : ownKnob Try.prog.godebug = none := by kernel_rfl
theorem laidOut : laidOutB Try.prog = true := by kernel_rfl
def IsRow (k : IntKind) (w : World) (a : Option Addr) (len cap : Nat) (zs : List Int) : Prop :=
  (a = none ∧ len = 0 ∧ cap = 0 ∧ zs = []) ∨
  ∃ x, a = some x ∧ len ≤ cap ∧ cap ≤ maxLen ∧ zs.length = cap ∧ (∀ i, i < zs.length → w.cell? (x.add i) = some (.int k (zs.getD i 0))) ∧ ∀ n ∈ zs, (Lit.int k n).wf = true
set_option maxRecDepth 100000 in
theorem lifted (os : Os) (started : os.Started) (H : Type) (enc : TypeId × Value → H) :
    ReturnsInHanded {} Try.checked os 13 .any (Rows.fnBitsSpec.pre6 enc Try.prog Try.f13 Rows.fnBitsRow.domain false) (Rows.fnBitsSpec.post enc Try.prog Try.f13 false true false false) := by
  refine returnsInHanded_of_change_sized (C := Try.checked) own started (by kernel_rfl) Try.func13
    (ChangeSpec.witness6 (enc := enc) (C := Try.checked) false ⟨#[], #[.slice none 0 0], []⟩ 8 (by kernel_rfl) (by kernel_rfl) (by kernel_rfl) (by kernel_rfl)) ?_
  intro W base args ds gs before hval0 hW hcnd hsz0 _
  have hsz : (DataW.weightsEach Try.prog (Try.f13.params.toList ++ Rows.fnBitsSpec.plain.varTypes Try.prog) (ds ++ gs)).all (· ≤ reachBytes) = true := hsz0
  have hval : ∀ (j : Nat) t v, Try.f13.params[j]? = some t → args[j]? = some v → Value.okWide Try.prog W .any base t v := hval0
  have hW' := hW
  obtain ⟨p, q, hA0, hV, rfl, hfz, hnd⟩ := hW
  have hA : DataW.TrodAll enc Try.prog W 0 (fun _ => true) true Try.f13.params.toList args.toList ds p := hA0
  rw [Try.params13] at hA hval hsz
  obtain ⟨v0, vs0, d0, ds0, p0, q0, hargs, rfl, rfl, h0, r0⟩ := trodAll_cons hA
  obtain ⟨rfl, rfl, rfl⟩ := trodAll_nil r0
  obtain rfl : args = #[v0] := by cases args; simp_all
  obtain ⟨rfl, rfl⟩ := trodVars_none hV
  obtain ⟨a0, len0, cap0, rfl⟩ := okWide_slice Try.underlying81 (hval 0 81 v0 rfl rfl)
  have k0 := h0
  have lt0 : ∀ x ∈ p0, x.block < W.heap.size := by obtain ⟨m, hm⟩ := k0; exact DataW.trod_lt m _ _ _ hm
  obtain ⟨z0, w0⟩ : ∃ zs, IsRow .u8 W a0 len0 cap0 zs := by
    obtain ⟨fuel, hf⟩ := h0
    rcases open_ints Try.underlying81 Try.underlying5 (by kernel_rfl) hf with ⟨hcs, _⟩ | ⟨x, l, c, zs, hcs, _, hl, hm, hz, _, hcell, hwz⟩
    · simp [Value.cells] at hcs
      obtain ⟨rfl, rfl, rfl⟩ := hcs
      exact ⟨[], .inl ⟨rfl, rfl, rfl, rfl⟩⟩
    · simp [Value.cells] at hcs
      obtain ⟨rfl, rfl, rfl⟩ := hcs
      exact ⟨zs, .inr ⟨_, rfl, hl, hm, by simpa using hz, hcell, hwz⟩⟩
  have y0 : len0 * 1 ≤ 140737488351232 := Go.Proofs.YtajlomhnednghaaW.PrintWords.sized_ints hsz (j := 0) (t := 81) rfl rfl Try.underlying81 Try.underlying5 (by kernel_rfl) (by kernel_rfl) h0
  clear hA0 hval0 hsz0 hsz
  refine (B.laws_FnBits.walk Pure.FnBits a0 len0 cap0 z0 W w0 y0).mono fun e W' ⟨he, bel⟩ => ?_
  subst he
  exact ⟨_, rfl, _, _, _, [], _, [], hW', trodAll_mk1 (shut_bool Try.underlying4 _), (trodAll_cons_mk (Below.trod laidOut (by kernel_rfl) (of_decide_eq_true (by kernel_rfl)) k0 bel lt0) trodAll_mk0), rfl, bel.frame _, fun h => by cases h⟩
theorem over : Rows.fnBitsRow.holds Try.pinned (OpenSpec.ofChange Rows.fnBitsSpec) :=
  OpenClaim.holds_of_wide 13 Try.f13 rfl rfl rfl rfl rfl rfl rfl ⟨rfl, rfl, rfl, rfl, rfl⟩ rfl rfl rfl rfl rfl (by kernel_rfl) Try.func13 (by kernel_rfl)
    (of_decide_eq_true (by kernel_rfl)) (by unfold Func.isWrapper; first | (rw [if_pos (by decide +kernel)]; kernel_rfl) | (rw [if_neg (by decide +kernel)]; exact ⟨rfl, rfl⟩))
    (fun os started H enc _ => lifted os started H enc)
theorem proved : Rows.FnBitsSaid := over
#print axioms proved
end Go.Proofs.Ytajlomhnednghaa.fnBits
namespace Go.Proofs.Ytajlomhnednghaa
/-- The row, under a short name, for the claim. -/
theorem fnBits_holds : Rows.FnBitsSaid := fnBits.proved
end Go.Proofs.Ytajlomhnednghaa
