/- Texts of this session, put together (wip/tools/pack.py): Bx30. Conditions: none. -/
import Derived.Test.YtajlomhnednghaaBim1
import Derived.Test.YtajlomhnednghaaBim5
namespace Go.Proofs.Ytajlomhnednghaa.B
open Go.RowKit Go.Proofs.YtajlomhnednghaaW.PrintWords Go.Proofs.YtajlomhnednghaaW.PrintLast Go.Proofs.YtajlomhnednghaaW.PrintMore
attribute [local go_sem] max2_int min2_int max_two min_two max_three min_three max_four min_four   -- for this text's walks alone
set_option linter.unusedVariables false
set_option linter.unusedSimpArgs false

attribute [local go_sem high] eqA34
/-! ### impl_Binary: function 55 -/
mutual
def impl_Binary.j0 : Nat → Int → Bool → Int → Int → ByteArray → Int → Int → ByteArray → Option (Int × Int × ByteArray × ByteArray)
  | 0, _, _, _, _, _, _, _, _ => none
  | k + 1, x0, x29, x299000, x299001, x299002, x300000, x300001, x300002 => if x29 = true then (some (0, 0, (⟨#[]⟩ : ByteArray), (⟨#[116, 121, 112, 101]⟩ : ByteArray))) else (if x0 = 1 then ((impl_truth.f ((Go.bits .or .i64 x299001 x300001) == 1)).bind fun bt304 => (some (bt304.1, bt304.2.1, bt304.2.2, (⟨#[]⟩ : ByteArray)))) else (if x0 = 2 then ((impl_truth.f ((Go.bits .and .i64 x299001 x300001) == 1)).bind fun bt307 => (some (bt307.1, bt307.2.1, bt307.2.2, (⟨#[]⟩ : ByteArray)))) else (if x0 = 3 then ((impl_truth.f (x299000 == x300000 && (x299001 == x300001 && (x299002.toList == x300002.toList)))).bind fun bt310 => (some (bt310.1, bt310.2.1, bt310.2.2, (⟨#[]⟩ : ByteArray)))) else (if x0 = 4 then ((impl_truth.f (!(x299000 == x300000) || (!(x299001 == x300001) || (!(x299002.toList == x300002.toList))))).bind fun bt313 => (some (bt313.1, bt313.2.1, bt313.2.2, (⟨#[]⟩ : ByteArray)))) else (if x0 = 5 then ((impl_order.f k x299000 x299001 x299002 x300000 x300001 x300002).bind fun t316 => ((impl_truth.f (decide (t316 < 0))).bind fun bt317 => (some (bt317.1, bt317.2.1, bt317.2.2, (⟨#[]⟩ : ByteArray))))) else (if x0 = 6 then ((impl_order.f k x299000 x299001 x299002 x300000 x300001 x300002).bind fun t320 => ((impl_truth.f (decide (t320 ≤ 0))).bind fun bt321 => (some (bt321.1, bt321.2.1, bt321.2.2, (⟨#[]⟩ : ByteArray))))) else (if x0 = 7 then ((impl_order.f k x299000 x299001 x299002 x300000 x300001 x300002).bind fun t324 => ((impl_truth.f (decide (t324 > 0))).bind fun bt325 => (some (bt325.1, bt325.2.1, bt325.2.2, (⟨#[]⟩ : ByteArray))))) else (if x0 = 8 then ((impl_order.f k x299000 x299001 x299002 x300000 x300001 x300002).bind fun t328 => ((impl_truth.f (decide (t328 ≥ 0))).bind fun bt329 => (some (bt329.1, bt329.2.1, bt329.2.2, (⟨#[]⟩ : ByteArray))))) else (if x299000 = 2 then (if x299002.size + x300002.size ≤ 9223372036854775807 then (if ((x299002 ++ x300002).size : Int) > 3000 then (some (0, 0, (⟨#[]⟩ : ByteArray), (⟨#[108, 111, 110, 103]⟩ : ByteArray))) else (some (2, 0, x299002 ++ x300002, (⟨#[]⟩ : ByteArray)))) else (none)) else (if x0 = 9 then ((impl_into.f k (IntKind.u64.wrap ((IntKind.u64.wrap (x299001)) + (IntKind.u64.wrap (x300001)))) x299000).bind fun t332 => (some (x299000, t332, (⟨#[]⟩ : ByteArray), (⟨#[]⟩ : ByteArray)))) else (if x0 = 10 then ((impl_into.f k (IntKind.u64.wrap ((IntKind.u64.wrap (x299001)) - (IntKind.u64.wrap (x300001)))) x299000).bind fun t333 => (some (x299000, t333, (⟨#[]⟩ : ByteArray), (⟨#[]⟩ : ByteArray)))) else (if x0 = 13 then ((impl_into.f k (IntKind.u64.wrap ((IntKind.u64.wrap (x299001)) * (IntKind.u64.wrap (x300001)))) x299000).bind fun t334 => (some (x299000, t334, (⟨#[]⟩ : ByteArray), (⟨#[]⟩ : ByteArray)))) else (if x0 = 11 then ((impl_into.f k (Go.bits .or .u64 (IntKind.u64.wrap (x299001)) (IntKind.u64.wrap (x300001))) x299000).bind fun t335 => (some (x299000, t335, (⟨#[]⟩ : ByteArray), (⟨#[]⟩ : ByteArray)))) else (if x0 = 12 then ((impl_into.f k (Go.bits .xor .u64 (IntKind.u64.wrap (x299001)) (IntKind.u64.wrap (x300001))) x299000).bind fun t336 => (some (x299000, t336, (⟨#[]⟩ : ByteArray), (⟨#[]⟩ : ByteArray)))) else (if x0 = 16 then ((impl_into.f k (Go.bits .and .u64 (IntKind.u64.wrap (x299001)) (IntKind.u64.wrap (x300001))) x299000).bind fun t337 => (some (x299000, t337, (⟨#[]⟩ : ByteArray), (⟨#[]⟩ : ByteArray)))) else (if x0 = 14 then (impl_Binary.j1 k x0 x299000 (IntKind.u64.wrap (x300001)) (x0 == 14) x299000 x299001 x299002 x300000 x300001 x300002) else (impl_Binary.j1 k x0 x299000 (IntKind.u64.wrap (x300001)) (x0 == 15) x299000 x299001 x299002 x300000 x300001 x300002)))))))))))))))))
def impl_Binary.j1 : Nat → Int → Int → Int → Bool → Int → Int → ByteArray → Int → Int → ByteArray → Option (Int × Int × ByteArray × ByteArray)
  | 0, _, _, _, _, _, _, _, _, _, _ => none
  | k + 1, x0, x9, x11, x147, x299000, x299001, x299002, x300000, x300001, x300002 => if x147 = true then (if x11 = 0 then (some (0, 0, (⟨#[]⟩ : ByteArray), (⟨#[100, 105, 118, 105, 100, 101]⟩ : ByteArray))) else ((impl_divide.f x0 x299000 x299001 x299002 x300000 x300001 x300002).bind fun t338 => ((impl_into.f k t338 x9).bind fun t339 => (some (x9, t339, (⟨#[]⟩ : ByteArray), (⟨#[]⟩ : ByteArray)))))) else ((impl_shift.f k x0 x299000 x299001 x299002 x300000 x300001 x300002).bind fun t340 => ((impl_into.f k t340 x9).bind fun t341 => (some (x9, t341, (⟨#[]⟩ : ByteArray), (⟨#[]⟩ : ByteArray)))))
end
def impl_Binary.f (k : Nat) (a0 : Int) (a1_0 : Int) (a1_1 : Int) (a1_2 : ByteArray) (a2_0 : Int) (a2_1 : Int) (a2_2 : ByteArray) : Option (Int × Int × ByteArray × ByteArray) := (impl_ValidValue.f k a1_0 a1_1 a1_2).bind fun t301 => (if t301 = true then ((impl_ValidValue.f k a2_0 a2_1 a2_2).bind fun t302 => (if t302 = true then ((impl_binType.f k a0 a1_0 a2_0).bind fun t303 => (impl_Binary.j0 k a0 (t303 == 0) a1_0 a1_1 a1_2 a2_0 a2_1 a2_2)) else (impl_Binary.j0 k a0 true a1_0 a1_1 a1_2 a2_0 a2_1 a2_2))) else (impl_Binary.j0 k a0 true a1_0 a1_1 a1_2 a2_0 a2_1 a2_2))
theorem impl_Binary.mono_l : ∀ k, (∀ y0 y1 y2 y3 y4 y5 y6 y7, LeO (impl_Binary.j0 k y0 y1 y2 y3 y4 y5 y6 y7) (impl_Binary.j0 (k + 1) y0 y1 y2 y3 y4 y5 y6 y7)) ∧ (∀ y0 y1 y2 y3 y4 y5 y6 y7 y8 y9, LeO (impl_Binary.j1 k y0 y1 y2 y3 y4 y5 y6 y7 y8 y9) (impl_Binary.j1 (k + 1) y0 y1 y2 y3 y4 y5 y6 y7 y8 y9))
  | 0 => ⟨fun _ _ _ _ _ _ _ _ r h => by simp [impl_Binary.j0] at h, fun _ _ _ _ _ _ _ _ _ _ r h => by simp [impl_Binary.j1] at h⟩
  | k + 1 => by
    obtain ⟨ih0, ih1⟩ := impl_Binary.mono_l k
    refine ⟨?_, ?_⟩
    · intro y0 y1 y2 y3 y4 y5 y6 y7
      unfold impl_Binary.j0
      repeat' first
      | (with_reducible exact ih0 _ _ _ _ _ _ _ _)
      | (with_reducible exact ih1 _ _ _ _ _ _ _ _ _ _)
      | (with_reducible exact impl_ValidValue.mono _ _ _ _)
      | (with_reducible exact impl_binType.mono _ _ _ _)
      | (with_reducible exact impl_into.mono _ _ _)
      | (with_reducible exact impl_order.mono _ _ _ _ _ _ _)
      | (with_reducible exact impl_shift.mono _ _ _ _ _ _ _ _)
      | (with_reducible exact LeO.refl _)
      | (with_reducible exact LeO.none _)
      | (with_reducible refine LeO.ite ?_ ?_)
      | (with_reducible refine LeO.bind ?_ (fun _ => ?_))
      | exact ih0 _ _ _ _ _ _ _ _
      | exact ih1 _ _ _ _ _ _ _ _ _ _
      | exact impl_ValidValue.mono _ _ _ _
      | exact impl_binType.mono _ _ _ _
      | exact impl_into.mono _ _ _
      | exact impl_order.mono _ _ _ _ _ _ _
      | exact impl_shift.mono _ _ _ _ _ _ _ _
      | exact LeO.none _
      | refine LeO.ite ?_ ?_
      | refine LeO.bind ?_ (fun _ => ?_)
    intro y0 y1 y2 y3 y4 y5 y6 y7 y8 y9
    unfold impl_Binary.j1
    repeat' first
    | (with_reducible exact ih0 _ _ _ _ _ _ _ _)
    | (with_reducible exact ih1 _ _ _ _ _ _ _ _ _ _)
    | (with_reducible exact impl_ValidValue.mono _ _ _ _)
    | (with_reducible exact impl_binType.mono _ _ _ _)
    | (with_reducible exact impl_into.mono _ _ _)
    | (with_reducible exact impl_order.mono _ _ _ _ _ _ _)
    | (with_reducible exact impl_shift.mono _ _ _ _ _ _ _ _)
    | (with_reducible exact LeO.refl _)
    | (with_reducible exact LeO.none _)
    | (with_reducible refine LeO.ite ?_ ?_)
    | (with_reducible refine LeO.bind ?_ (fun _ => ?_))
    | exact ih0 _ _ _ _ _ _ _ _
    | exact ih1 _ _ _ _ _ _ _ _ _ _
    | exact impl_ValidValue.mono _ _ _ _
    | exact impl_binType.mono _ _ _ _
    | exact impl_into.mono _ _ _
    | exact impl_order.mono _ _ _ _ _ _ _
    | exact impl_shift.mono _ _ _ _ _ _ _ _
    | exact LeO.none _
    | refine LeO.ite ?_ ?_
    | refine LeO.bind ?_ (fun _ => ?_)
theorem impl_Binary.mono : ∀ a0 a1 a2 a3 a4 a5 a6 k, LeO (impl_Binary.f k a0 a1 a2 a3 a4 a5 a6) (impl_Binary.f (k + 1) a0 a1 a2 a3 a4 a5 a6) := by
  intro a0 a1 a2 a3 a4 a5 a6 k
  obtain ⟨ih0, ih1⟩ := impl_Binary.mono_l k
  unfold impl_Binary.f
  repeat' first
      | (with_reducible exact ih0 _ _ _ _ _ _ _ _)
      | (with_reducible exact ih1 _ _ _ _ _ _ _ _ _ _)
      | (with_reducible exact impl_ValidValue.mono _ _ _ _)
      | (with_reducible exact impl_binType.mono _ _ _ _)
      | (with_reducible exact impl_into.mono _ _ _)
      | (with_reducible exact impl_order.mono _ _ _ _ _ _ _)
      | (with_reducible exact impl_shift.mono _ _ _ _ _ _ _ _)
      | (with_reducible exact LeO.refl _)
      | (with_reducible exact LeO.none _)
      | (with_reducible refine LeO.ite ?_ ?_)
      | (with_reducible refine LeO.bind ?_ (fun _ => ?_))
      | exact ih0 _ _ _ _ _ _ _ _
      | exact ih1 _ _ _ _ _ _ _ _ _ _
      | exact impl_ValidValue.mono _ _ _ _
      | exact impl_binType.mono _ _ _ _
      | exact impl_into.mono _ _ _
      | exact impl_order.mono _ _ _ _ _ _ _
      | exact impl_shift.mono _ _ _ _ _ _ _ _
      | exact LeO.none _
      | refine LeO.ite ?_ ?_
      | refine LeO.bind ?_ (fun _ => ?_)
set_option maxHeartbeats 8000000 in
set_option maxRecDepth 100000 in
theorem impl_Binary.calls (k : Nat) (a0 : Int) (a1_0 : Int) (a1_1 : Int) (a1_2 : ByteArray) (a2_0 : Int) (a2_1 : Int) (a2_2 : ByteArray) (r1 : Int) (r2 : Int) (r3 : ByteArray) (r4 : ByteArray) (w : World) (h : impl_Binary.f k a0 a1_0 a1_1 a1_2 a2_0 a2_1 a2_2 = some (r1, r2, r3, r4)) :
    Calls Try.prog 55 #[.int .i64 a0, .agg #[.int .i64 a1_0, .int .i64 a1_1, .string a1_2], .agg #[.int .i64 a2_0, .int .i64 a2_1, .string a2_2]] w fun e w' => e = .returned (.tuple #[.agg #[.int .i64 r1, .int .i64 r2, .string r3], .string r4]) ∧ Below w.heap.size w w' := by
  have hu34 := Try.underlying34
  have HB := mk0 (Below.refl w.heap.size w)
  have H : ((impl_ValidValue.f k a1_0 a1_1 a1_2).bind fun t301 => (if t301 = true then ((impl_ValidValue.f k a2_0 a2_1 a2_2).bind fun t302 => (if t302 = true then ((impl_binType.f k a0 a1_0 a2_0).bind fun t303 => (impl_Binary.j0 k a0 (t303 == 0) a1_0 a1_1 a1_2 a2_0 a2_1 a2_2)) else (impl_Binary.j0 k a0 true a1_0 a1_1 a1_2 a2_0 a2_1 a2_2))) else (impl_Binary.j0 k a0 true a1_0 a1_1 a1_2 a2_0 a2_1 a2_2))) = some (r1, r2, r3, r4) := h
  clear h
  have HC4 := mk0 H
  clear H
  go_enter Try.func55, Try.ntmps55
  go_upto_region 1 with (first | ((with_reducible refine gate_dst (N := 4) rfl ?_); refine box_event ?hg (N := 4) ?hd (cs := #[.int .i64 a1_0, .int .i64 a1_1, .string a1_2]) (t := 34) ?hr ?_; (case hd => rfl); (case hg => rfl); (case hr => first | (go_simp; done) | (go_simp; rfl)); intro gb298 hg w5 hbox hb; have n0_ := mk0 (below_step (by repeat (first | (with_reducible first | exact HB.out | apply wA | apply wN | apply wD) | exact HB.out)) hb); have n1_ := mk0 (hbox); have n2_ := mk0 ((by rw [hg]; exact (below_size (by repeat (first | (with_reducible first | exact HB.out | apply wA | apply wN | apply wD) | exact HB.out))) : w.heap.size ≤ gb298)); have n3_ := mk0 ((by rw [hg]; exact (below_size (by repeat (first | (with_reducible first | exact HB.out | apply wA | apply wN | apply wD) | exact HB.out))) : w.heap.size ≤ gb298)); clear HB; have HB := n0_; have BK298 := n1_; have GW298 := n2_; have GE298 := n3_; clear n0_ n1_ n2_ n3_; clear hb hbox hg) | ((with_reducible refine gate_dst (N := 5) rfl ?_); refine box_event ?hg (N := 5) ?hd (cs := #[.int .i64 a2_0, .int .i64 a2_1, .string a2_2]) (t := 34) ?hr ?_; (case hd => rfl); (case hg => rfl); (case hr => first | (go_simp; done) | (go_simp; rfl)); intro gb299 hg w6 hbox hb; have n0_ := mk0 (bB (g := gb298) (o := .cells #[.int .i64 a1_0, .int .i64 a1_1, .string a1_2] 34 (0, 0)) (by (with_reducible repeat (first | apply bN | apply bD | apply bA)); exact BK298.out) hb); have n1_ := mk0 (below_step (by repeat (first | (with_reducible first | exact HB.out | apply wA | apply wN | apply wD | refine wS ?_ GE298.out) | exact HB.out)) hb); have n2_ := mk0 (hbox); have n3_ := mk0 ((by rw [hg]; exact (below_size (by repeat (first | (with_reducible first | exact HB.out | apply wA | apply wN | apply wD | refine wS ?_ GE298.out) | exact HB.out))) : w.heap.size ≤ gb299)); have n4_ := mk0 ((by rw [hg]; exact (below_size (by repeat (first | (with_reducible first | exact HB.out | apply wA | apply wN | apply wD | refine wS ?_ GE298.out) | exact HB.out))) : w.heap.size ≤ gb299)); have n5_ := mk0 ((by rw [hg]; exact Nat.ne_of_lt (blk_lt (g := gb298) (o := .cells #[.int .i64 a1_0, .int .i64 a1_1, .string a1_2] 34 (0, 0)) (by (with_reducible repeat (first | apply bN | apply bD | apply bA)); exact BK298.out)) : gb298 ≠ gb299)); have n6_ := mk0 ((by rw [hg]; exact Nat.ne_of_gt (blk_lt (g := gb298) (o := .cells #[.int .i64 a1_0, .int .i64 a1_1, .string a1_2] 34 (0, 0)) (by (with_reducible repeat (first | apply bN | apply bD | apply bA)); exact BK298.out)) : gb299 ≠ gb298)); clear BK298; clear HB; have BK298 := n0_; have HB := n1_; have BK299 := n2_; have GW299 := n3_; have GE299 := n4_; have NB298_299 := n5_; have NB299_298 := n6_; clear n0_ n1_ n2_ n3_ n4_ n5_ n6_; clear hb hbox hg) | ((with_reducible refine gate_dst (N := 6) rfl ?_); refine box_event ?hg (N := 6) ?hd (cs := #[.int .i64 0, .int .i64 0, .string (⟨#[]⟩ : ByteArray)]) (t := 34) ?hr ?_; (case hd => rfl); (case hg => rfl); (case hr => first | (go_simp; done) | (go_simp; rfl)); intro gb300 hg w7 hbox hb; have n0_ := mk0 (bB (g := gb298) (o := .cells #[.int .i64 a1_0, .int .i64 a1_1, .string a1_2] 34 (0, 0)) (by (with_reducible repeat (first | apply bN | apply bD | apply bA)); exact BK298.out) hb); have n1_ := mk0 (bB (g := gb299) (o := .cells #[.int .i64 a2_0, .int .i64 a2_1, .string a2_2] 34 (0, 0)) (by (with_reducible repeat (first | apply bN | apply bD | apply bA)); exact BK299.out) hb); have n2_ := mk0 (below_step (by repeat (first | (with_reducible first | exact HB.out | apply wA | apply wN | apply wD | refine wS ?_ GE298.out | refine wS ?_ GE299.out) | exact HB.out)) hb); have n3_ := mk0 (hbox); have n4_ := mk0 ((by rw [hg]; exact (below_size (by repeat (first | (with_reducible first | exact HB.out | apply wA | apply wN | apply wD | refine wS ?_ GE298.out | refine wS ?_ GE299.out) | exact HB.out))) : w.heap.size ≤ gb300)); have n5_ := mk0 ((by rw [hg]; exact (below_size (by repeat (first | (with_reducible first | exact HB.out | apply wA | apply wN | apply wD | refine wS ?_ GE298.out | refine wS ?_ GE299.out) | exact HB.out))) : w.heap.size ≤ gb300)); have n6_ := mk0 ((by rw [hg]; exact Nat.ne_of_lt (blk_lt (g := gb298) (o := .cells #[.int .i64 a1_0, .int .i64 a1_1, .string a1_2] 34 (0, 0)) (by (with_reducible repeat (first | apply bN | apply bD | apply bA)); exact BK298.out)) : gb298 ≠ gb300)); have n7_ := mk0 ((by rw [hg]; exact Nat.ne_of_gt (blk_lt (g := gb298) (o := .cells #[.int .i64 a1_0, .int .i64 a1_1, .string a1_2] 34 (0, 0)) (by (with_reducible repeat (first | apply bN | apply bD | apply bA)); exact BK298.out)) : gb300 ≠ gb298)); have n8_ := mk0 ((by rw [hg]; exact Nat.ne_of_lt (blk_lt (g := gb299) (o := .cells #[.int .i64 a2_0, .int .i64 a2_1, .string a2_2] 34 (0, 0)) (by (with_reducible repeat (first | apply bN | apply bD | apply bA)); exact BK299.out)) : gb299 ≠ gb300)); have n9_ := mk0 ((by rw [hg]; exact Nat.ne_of_gt (blk_lt (g := gb299) (o := .cells #[.int .i64 a2_0, .int .i64 a2_1, .string a2_2] 34 (0, 0)) (by (with_reducible repeat (first | apply bN | apply bD | apply bA)); exact BK299.out)) : gb300 ≠ gb299)); clear BK298; clear BK299; clear HB; have BK298 := n0_; have BK299 := n1_; have HB := n2_; have BK300 := n3_; have GW300 := n4_; have GE300 := n5_; have NB298_300 := n6_; have NB300_298 := n7_; have NB299_300 := n8_; have NB300_299 := n9_; clear n0_ n1_ n2_ n3_ n4_ n5_ n6_ n7_ n8_ n9_; clear hb hbox hg))
  repeat (go_quiet (first | ((with_reducible refine gate_dst (N := 4) rfl ?_); refine box_event ?hg (N := 4) ?hd (cs := #[.int .i64 a1_0, .int .i64 a1_1, .string a1_2]) (t := 34) ?hr ?_; (case hd => rfl); (case hg => rfl); (case hr => first | (go_simp; done) | (go_simp; rfl)); intro gb298 hg w5 hbox hb; have n0_ := mk0 (below_step (by repeat (first | (with_reducible first | exact HB.out | apply wA | apply wN | apply wD) | exact HB.out)) hb); have n1_ := mk0 (hbox); have n2_ := mk0 ((by rw [hg]; exact (below_size (by repeat (first | (with_reducible first | exact HB.out | apply wA | apply wN | apply wD) | exact HB.out))) : w.heap.size ≤ gb298)); have n3_ := mk0 ((by rw [hg]; exact (below_size (by repeat (first | (with_reducible first | exact HB.out | apply wA | apply wN | apply wD) | exact HB.out))) : w.heap.size ≤ gb298)); clear HB; have HB := n0_; have BK298 := n1_; have GW298 := n2_; have GE298 := n3_; clear n0_ n1_ n2_ n3_; clear hb hbox hg) | ((with_reducible refine gate_dst (N := 5) rfl ?_); refine box_event ?hg (N := 5) ?hd (cs := #[.int .i64 a2_0, .int .i64 a2_1, .string a2_2]) (t := 34) ?hr ?_; (case hd => rfl); (case hg => rfl); (case hr => first | (go_simp; done) | (go_simp; rfl)); intro gb299 hg w6 hbox hb; have n0_ := mk0 (bB (g := gb298) (o := .cells #[.int .i64 a1_0, .int .i64 a1_1, .string a1_2] 34 (0, 0)) (by (with_reducible repeat (first | apply bN | apply bD | apply bA)); exact BK298.out) hb); have n1_ := mk0 (below_step (by repeat (first | (with_reducible first | exact HB.out | apply wA | apply wN | apply wD | refine wS ?_ GE298.out) | exact HB.out)) hb); have n2_ := mk0 (hbox); have n3_ := mk0 ((by rw [hg]; exact (below_size (by repeat (first | (with_reducible first | exact HB.out | apply wA | apply wN | apply wD | refine wS ?_ GE298.out) | exact HB.out))) : w.heap.size ≤ gb299)); have n4_ := mk0 ((by rw [hg]; exact (below_size (by repeat (first | (with_reducible first | exact HB.out | apply wA | apply wN | apply wD | refine wS ?_ GE298.out) | exact HB.out))) : w.heap.size ≤ gb299)); have n5_ := mk0 ((by rw [hg]; exact Nat.ne_of_lt (blk_lt (g := gb298) (o := .cells #[.int .i64 a1_0, .int .i64 a1_1, .string a1_2] 34 (0, 0)) (by (with_reducible repeat (first | apply bN | apply bD | apply bA)); exact BK298.out)) : gb298 ≠ gb299)); have n6_ := mk0 ((by rw [hg]; exact Nat.ne_of_gt (blk_lt (g := gb298) (o := .cells #[.int .i64 a1_0, .int .i64 a1_1, .string a1_2] 34 (0, 0)) (by (with_reducible repeat (first | apply bN | apply bD | apply bA)); exact BK298.out)) : gb299 ≠ gb298)); clear BK298; clear HB; have BK298 := n0_; have HB := n1_; have BK299 := n2_; have GW299 := n3_; have GE299 := n4_; have NB298_299 := n5_; have NB299_298 := n6_; clear n0_ n1_ n2_ n3_ n4_ n5_ n6_; clear hb hbox hg) | ((with_reducible refine gate_dst (N := 6) rfl ?_); refine box_event ?hg (N := 6) ?hd (cs := #[.int .i64 0, .int .i64 0, .string (⟨#[]⟩ : ByteArray)]) (t := 34) ?hr ?_; (case hd => rfl); (case hg => rfl); (case hr => first | (go_simp; done) | (go_simp; rfl)); intro gb300 hg w7 hbox hb; have n0_ := mk0 (bB (g := gb298) (o := .cells #[.int .i64 a1_0, .int .i64 a1_1, .string a1_2] 34 (0, 0)) (by (with_reducible repeat (first | apply bN | apply bD | apply bA)); exact BK298.out) hb); have n1_ := mk0 (bB (g := gb299) (o := .cells #[.int .i64 a2_0, .int .i64 a2_1, .string a2_2] 34 (0, 0)) (by (with_reducible repeat (first | apply bN | apply bD | apply bA)); exact BK299.out) hb); have n2_ := mk0 (below_step (by repeat (first | (with_reducible first | exact HB.out | apply wA | apply wN | apply wD | refine wS ?_ GE298.out | refine wS ?_ GE299.out) | exact HB.out)) hb); have n3_ := mk0 (hbox); have n4_ := mk0 ((by rw [hg]; exact (below_size (by repeat (first | (with_reducible first | exact HB.out | apply wA | apply wN | apply wD | refine wS ?_ GE298.out | refine wS ?_ GE299.out) | exact HB.out))) : w.heap.size ≤ gb300)); have n5_ := mk0 ((by rw [hg]; exact (below_size (by repeat (first | (with_reducible first | exact HB.out | apply wA | apply wN | apply wD | refine wS ?_ GE298.out | refine wS ?_ GE299.out) | exact HB.out))) : w.heap.size ≤ gb300)); have n6_ := mk0 ((by rw [hg]; exact Nat.ne_of_lt (blk_lt (g := gb298) (o := .cells #[.int .i64 a1_0, .int .i64 a1_1, .string a1_2] 34 (0, 0)) (by (with_reducible repeat (first | apply bN | apply bD | apply bA)); exact BK298.out)) : gb298 ≠ gb300)); have n7_ := mk0 ((by rw [hg]; exact Nat.ne_of_gt (blk_lt (g := gb298) (o := .cells #[.int .i64 a1_0, .int .i64 a1_1, .string a1_2] 34 (0, 0)) (by (with_reducible repeat (first | apply bN | apply bD | apply bA)); exact BK298.out)) : gb300 ≠ gb298)); have n8_ := mk0 ((by rw [hg]; exact Nat.ne_of_lt (blk_lt (g := gb299) (o := .cells #[.int .i64 a2_0, .int .i64 a2_1, .string a2_2] 34 (0, 0)) (by (with_reducible repeat (first | apply bN | apply bD | apply bA)); exact BK299.out)) : gb299 ≠ gb300)); have n9_ := mk0 ((by rw [hg]; exact Nat.ne_of_gt (blk_lt (g := gb299) (o := .cells #[.int .i64 a2_0, .int .i64 a2_1, .string a2_2] 34 (0, 0)) (by (with_reducible repeat (first | apply bN | apply bD | apply bA)); exact BK299.out)) : gb300 ≠ gb299)); clear BK298; clear BK299; clear HB; have BK298 := n0_; have BK299 := n1_; have HB := n2_; have BK300 := n3_; have GW300 := n4_; have GE300 := n5_; have NB298_300 := n6_; have NB300_298 := n7_; have NB299_300 := n8_; have NB300_299 := n9_; clear n0_ n1_ n2_ n3_ n4_ n5_ n6_ n7_ n8_ n9_; clear hb hbox hg)); go_upto_region 1 with (first | ((with_reducible refine gate_dst (N := 4) rfl ?_); refine box_event ?hg (N := 4) ?hd (cs := #[.int .i64 a1_0, .int .i64 a1_1, .string a1_2]) (t := 34) ?hr ?_; (case hd => rfl); (case hg => rfl); (case hr => first | (go_simp; done) | (go_simp; rfl)); intro gb298 hg w5 hbox hb; have n0_ := mk0 (below_step (by repeat (first | (with_reducible first | exact HB.out | apply wA | apply wN | apply wD) | exact HB.out)) hb); have n1_ := mk0 (hbox); have n2_ := mk0 ((by rw [hg]; exact (below_size (by repeat (first | (with_reducible first | exact HB.out | apply wA | apply wN | apply wD) | exact HB.out))) : w.heap.size ≤ gb298)); have n3_ := mk0 ((by rw [hg]; exact (below_size (by repeat (first | (with_reducible first | exact HB.out | apply wA | apply wN | apply wD) | exact HB.out))) : w.heap.size ≤ gb298)); clear HB; have HB := n0_; have BK298 := n1_; have GW298 := n2_; have GE298 := n3_; clear n0_ n1_ n2_ n3_; clear hb hbox hg) | ((with_reducible refine gate_dst (N := 5) rfl ?_); refine box_event ?hg (N := 5) ?hd (cs := #[.int .i64 a2_0, .int .i64 a2_1, .string a2_2]) (t := 34) ?hr ?_; (case hd => rfl); (case hg => rfl); (case hr => first | (go_simp; done) | (go_simp; rfl)); intro gb299 hg w6 hbox hb; have n0_ := mk0 (bB (g := gb298) (o := .cells #[.int .i64 a1_0, .int .i64 a1_1, .string a1_2] 34 (0, 0)) (by (with_reducible repeat (first | apply bN | apply bD | apply bA)); exact BK298.out) hb); have n1_ := mk0 (below_step (by repeat (first | (with_reducible first | exact HB.out | apply wA | apply wN | apply wD | refine wS ?_ GE298.out) | exact HB.out)) hb); have n2_ := mk0 (hbox); have n3_ := mk0 ((by rw [hg]; exact (below_size (by repeat (first | (with_reducible first | exact HB.out | apply wA | apply wN | apply wD | refine wS ?_ GE298.out) | exact HB.out))) : w.heap.size ≤ gb299)); have n4_ := mk0 ((by rw [hg]; exact (below_size (by repeat (first | (with_reducible first | exact HB.out | apply wA | apply wN | apply wD | refine wS ?_ GE298.out) | exact HB.out))) : w.heap.size ≤ gb299)); have n5_ := mk0 ((by rw [hg]; exact Nat.ne_of_lt (blk_lt (g := gb298) (o := .cells #[.int .i64 a1_0, .int .i64 a1_1, .string a1_2] 34 (0, 0)) (by (with_reducible repeat (first | apply bN | apply bD | apply bA)); exact BK298.out)) : gb298 ≠ gb299)); have n6_ := mk0 ((by rw [hg]; exact Nat.ne_of_gt (blk_lt (g := gb298) (o := .cells #[.int .i64 a1_0, .int .i64 a1_1, .string a1_2] 34 (0, 0)) (by (with_reducible repeat (first | apply bN | apply bD | apply bA)); exact BK298.out)) : gb299 ≠ gb298)); clear BK298; clear HB; have BK298 := n0_; have HB := n1_; have BK299 := n2_; have GW299 := n3_; have GE299 := n4_; have NB298_299 := n5_; have NB299_298 := n6_; clear n0_ n1_ n2_ n3_ n4_ n5_ n6_; clear hb hbox hg) | ((with_reducible refine gate_dst (N := 6) rfl ?_); refine box_event ?hg (N := 6) ?hd (cs := #[.int .i64 0, .int .i64 0, .string (⟨#[]⟩ : ByteArray)]) (t := 34) ?hr ?_; (case hd => rfl); (case hg => rfl); (case hr => first | (go_simp; done) | (go_simp; rfl)); intro gb300 hg w7 hbox hb; have n0_ := mk0 (bB (g := gb298) (o := .cells #[.int .i64 a1_0, .int .i64 a1_1, .string a1_2] 34 (0, 0)) (by (with_reducible repeat (first | apply bN | apply bD | apply bA)); exact BK298.out) hb); have n1_ := mk0 (bB (g := gb299) (o := .cells #[.int .i64 a2_0, .int .i64 a2_1, .string a2_2] 34 (0, 0)) (by (with_reducible repeat (first | apply bN | apply bD | apply bA)); exact BK299.out) hb); have n2_ := mk0 (below_step (by repeat (first | (with_reducible first | exact HB.out | apply wA | apply wN | apply wD | refine wS ?_ GE298.out | refine wS ?_ GE299.out) | exact HB.out)) hb); have n3_ := mk0 (hbox); have n4_ := mk0 ((by rw [hg]; exact (below_size (by repeat (first | (with_reducible first | exact HB.out | apply wA | apply wN | apply wD | refine wS ?_ GE298.out | refine wS ?_ GE299.out) | exact HB.out))) : w.heap.size ≤ gb300)); have n5_ := mk0 ((by rw [hg]; exact (below_size (by repeat (first | (with_reducible first | exact HB.out | apply wA | apply wN | apply wD | refine wS ?_ GE298.out | refine wS ?_ GE299.out) | exact HB.out))) : w.heap.size ≤ gb300)); have n6_ := mk0 ((by rw [hg]; exact Nat.ne_of_lt (blk_lt (g := gb298) (o := .cells #[.int .i64 a1_0, .int .i64 a1_1, .string a1_2] 34 (0, 0)) (by (with_reducible repeat (first | apply bN | apply bD | apply bA)); exact BK298.out)) : gb298 ≠ gb300)); have n7_ := mk0 ((by rw [hg]; exact Nat.ne_of_gt (blk_lt (g := gb298) (o := .cells #[.int .i64 a1_0, .int .i64 a1_1, .string a1_2] 34 (0, 0)) (by (with_reducible repeat (first | apply bN | apply bD | apply bA)); exact BK298.out)) : gb300 ≠ gb298)); have n8_ := mk0 ((by rw [hg]; exact Nat.ne_of_lt (blk_lt (g := gb299) (o := .cells #[.int .i64 a2_0, .int .i64 a2_1, .string a2_2] 34 (0, 0)) (by (with_reducible repeat (first | apply bN | apply bD | apply bA)); exact BK299.out)) : gb299 ≠ gb300)); have n9_ := mk0 ((by rw [hg]; exact Nat.ne_of_gt (blk_lt (g := gb299) (o := .cells #[.int .i64 a2_0, .int .i64 a2_1, .string a2_2] 34 (0, 0)) (by (with_reducible repeat (first | apply bN | apply bD | apply bA)); exact BK299.out)) : gb300 ≠ gb299)); clear BK298; clear BK299; clear HB; have BK298 := n0_; have BK299 := n1_; have HB := n2_; have BK300 := n3_; have GW300 := n4_; have GE300 := n5_; have NB298_300 := n6_; have NB300_298 := n7_; have NB299_300 := n8_; have NB300_299 := n9_; clear n0_ n1_ n2_ n3_ n4_ n5_ n6_ n7_ n8_ n9_; clear hb hbox hg)))
  (try simp only [Act.put, List.setIfInBounds_toArray, List.set_cons_zero, List.set_cons_succ])
  go_cut [29] (fun v29 wc => ∃ (kq : Nat) (x29_3 : Bool), v29 = .bool x29_3 ∧ Aside0 (impl_Binary.j0 kq a0 x29_3 a1_0 a1_1 a1_2 a2_0 a2_1 a2_2 = some (r1, r2, r3, r4)) ∧ Aside0 (kq ≤ k) ∧ Aside0 (wc.heap[gb298]? = some (.cells #[.int .i64 a1_0, .int .i64 a1_1, .string a1_2] 34 (0, 0))) ∧ Aside0 (wc.heap[gb299]? = some (.cells #[.int .i64 a2_0, .int .i64 a2_1, .string a2_2] 34 (0, 0))) ∧ Aside0 (wc.heap[gb300]? = some (.cells #[.int .i64 0, .int .i64 0, .string (⟨#[]⟩ : ByteArray)] 34 (0, 0))) ∧ Aside0 (Below w.heap.size w wc))
  case first =>
    have H := HC4.out
    clear HC4
    replace H := Option.bind_eq_some_iff.mp H
    obtain ⟨t301, A80, H⟩ := H
    replace H : (if t301 = true then ((impl_ValidValue.f k a2_0 a2_1 a2_2).bind fun t302 => (if t302 = true then ((impl_binType.f k a0 a1_0 a2_0).bind fun t303 => (impl_Binary.j0 k a0 (t303 == 0) a1_0 a1_1 a1_2 a2_0 a2_1 a2_2)) else (impl_Binary.j0 k a0 true a1_0 a1_1 a1_2 a2_0 a2_1 a2_2))) else (impl_Binary.j0 k a0 true a1_0 a1_1 a1_2 a2_0 a2_1 a2_2)) = some (r1, r2, r3, r4) := H
    have A8 := mk0 A80
    clear A80
    by_cases c9 : t301 = true
    · subst c9
      have H1 : ((impl_ValidValue.f k a2_0 a2_1 a2_2).bind fun t302 => (if t302 = true then ((impl_binType.f k a0 a1_0 a2_0).bind fun t303 => (impl_Binary.j0 k a0 (t303 == 0) a1_0 a1_1 a1_2 a2_0 a2_1 a2_2)) else (impl_Binary.j0 k a0 true a1_0 a1_1 a1_2 a2_0 a2_1 a2_2))) = some (r1, r2, r3, r4) := by rw [if_pos rfl] at H; exact H
      clear H
      have H := H1
      clear H1
      replace H := Option.bind_eq_some_iff.mp H
      obtain ⟨t302, A100, H⟩ := H
      replace H : (if t302 = true then ((impl_binType.f k a0 a1_0 a2_0).bind fun t303 => (impl_Binary.j0 k a0 (t303 == 0) a1_0 a1_1 a1_2 a2_0 a2_1 a2_2)) else (impl_Binary.j0 k a0 true a1_0 a1_1 a1_2 a2_0 a2_1 a2_2)) = some (r1, r2, r3, r4) := H
      have A10 := mk0 A100
      clear A100
      by_cases c11 : t302 = true
      · subst c11
        have H1 : ((impl_binType.f k a0 a1_0 a2_0).bind fun t303 => (impl_Binary.j0 k a0 (t303 == 0) a1_0 a1_1 a1_2 a2_0 a2_1 a2_2)) = some (r1, r2, r3, r4) := by rw [if_pos rfl] at H; exact H
        clear H
        have H := H1
        clear H1
        replace H := Option.bind_eq_some_iff.mp H
        obtain ⟨t303, A120, H⟩ := H
        replace H : (impl_Binary.j0 k a0 (t303 == 0) a1_0 a1_1 a1_2 a2_0 a2_1 a2_2) = some (r1, r2, r3, r4) := H
        have A12 := mk0 A120
        clear A120
        have H' := mk0 H
        clear H
        have hnb13 := NB298_299.out
        have hnc13 := NB299_298.out
        have hnb14 := NB298_300.out
        have hnc14 := NB300_298.out
        have hcz15_0 : w7.cell? ⟨gb298, 0, none⟩ = some (.int .i64 a1_0) := (bC BK298.out 0).trans rfl
        have hcz15_1 : w7.cell? ⟨gb298, 1, none⟩ = some (.int .i64 a1_1) := (bC BK298.out 1).trans rfl
        have hcz15_2 : w7.cell? ⟨gb298, 2, none⟩ = some (.string a1_2) := (bC BK298.out 2).trans rfl
        have hfz15_0 := bF BK298.out 0
        have hfz15_1 := bF BK298.out 1
        have hfz15_2 := bF BK298.out 2
        go_wp2_with (first | (go_at_call 22; (with_reducible refine (impl_ValidValue.calls k a1_0 a1_1 a1_2 true _ A8.out).mono ?_); rintro e w16 ⟨rfl, hb⟩; have n0_ := mk0 (bB (g := gb298) (o := .cells #[.int .i64 a1_0, .int .i64 a1_1, .string a1_2] 34 (0, 0)) (by (with_reducible repeat (first | apply bN | apply bD | apply bA)); exact BK298.out) hb); have n1_ := mk0 (bB (g := gb299) (o := .cells #[.int .i64 a2_0, .int .i64 a2_1, .string a2_2] 34 (0, 0)) (by (with_reducible repeat (first | apply bN | apply bD | apply bA)); exact BK299.out) hb); have n2_ := mk0 (bB (g := gb300) (o := .cells #[.int .i64 0, .int .i64 0, .string (⟨#[]⟩ : ByteArray)] 34 (0, 0)) (by (with_reducible repeat (first | apply bN | apply bD | apply bA)); exact BK300.out) hb); have n3_ := mk0 (below_step (by repeat (first | (with_reducible first | exact HB.out | apply wA | apply wN | apply wD | refine wS ?_ GE298.out | refine wS ?_ GE299.out | refine wS ?_ GE300.out) | exact HB.out)) hb); clear BK298; clear BK299; clear BK300; clear HB; have BK298 := n0_; have BK299 := n1_; have BK300 := n2_; have HB := n3_; clear n0_ n1_ n2_ n3_; (try clear hb); (try clear hb2); (try clear hk); (try clear hi); have hnb17 := NB299_300.out; have hnc17 := NB300_299.out; have hcz18_0 : w16.cell? ⟨gb299, 0, none⟩ = some (.int .i64 a2_0) := (bC BK299.out 0).trans rfl; have hcz18_1 : w16.cell? ⟨gb299, 1, none⟩ = some (.int .i64 a2_1) := (bC BK299.out 1).trans rfl; have hcz18_2 : w16.cell? ⟨gb299, 2, none⟩ = some (.string a2_2) := (bC BK299.out 2).trans rfl; have hfz18_0 := bF BK299.out 0; have hfz18_1 := bF BK299.out 1; have hfz18_2 := bF BK299.out 2) | (go_at_call 22; (with_reducible refine (impl_ValidValue.calls k a2_0 a2_1 a2_2 true _ A10.out).mono ?_); rintro e w19 ⟨rfl, hb⟩; have n0_ := mk0 (bB (g := gb298) (o := .cells #[.int .i64 a1_0, .int .i64 a1_1, .string a1_2] 34 (0, 0)) (by (with_reducible repeat (first | apply bN | apply bD | apply bA)); exact BK298.out) hb); have n1_ := mk0 (bB (g := gb299) (o := .cells #[.int .i64 a2_0, .int .i64 a2_1, .string a2_2] 34 (0, 0)) (by (with_reducible repeat (first | apply bN | apply bD | apply bA)); exact BK299.out) hb); have n2_ := mk0 (bB (g := gb300) (o := .cells #[.int .i64 0, .int .i64 0, .string (⟨#[]⟩ : ByteArray)] 34 (0, 0)) (by (with_reducible repeat (first | apply bN | apply bD | apply bA)); exact BK300.out) hb); have n3_ := mk0 (below_step (by repeat (first | (with_reducible first | exact HB.out | apply wA | apply wN | apply wD | refine wS ?_ GE298.out | refine wS ?_ GE299.out | refine wS ?_ GE300.out) | exact HB.out)) hb); clear BK298; clear BK299; clear BK300; clear HB; have BK298 := n0_; have BK299 := n1_; have BK300 := n2_; have HB := n3_; clear n0_ n1_ n2_ n3_; (try clear hb); (try clear hb2); (try clear hk); (try clear hi); have hcz20_0 : w19.cell? ⟨gb298, 0, none⟩ = some (.int .i64 a1_0) := (bC BK298.out 0).trans rfl; have hcz20_1 : w19.cell? ⟨gb298, 1, none⟩ = some (.int .i64 a1_1) := (bC BK298.out 1).trans rfl; have hcz20_2 : w19.cell? ⟨gb298, 2, none⟩ = some (.string a1_2) := (bC BK298.out 2).trans rfl; have hfz20_0 := bF BK298.out 0; have hfz20_1 := bF BK298.out 1; have hfz20_2 := bF BK298.out 2; have hcz21_0 : w19.cell? ⟨gb299, 0, none⟩ = some (.int .i64 a2_0) := (bC BK299.out 0).trans rfl; have hcz21_1 : w19.cell? ⟨gb299, 1, none⟩ = some (.int .i64 a2_1) := (bC BK299.out 1).trans rfl; have hcz21_2 : w19.cell? ⟨gb299, 2, none⟩ = some (.string a2_2) := (bC BK299.out 2).trans rfl; have hfz21_0 := bF BK299.out 0; have hfz21_1 := bF BK299.out 1; have hfz21_2 := bF BK299.out 2) | (go_at_call 92; (with_reducible refine (impl_binType.calls k a0 a1_0 a2_0 t303 _ A12.out).mono ?_); rintro e w' ⟨rfl, ⟨nd, rfl⟩⟩; (try first | exact ⟨rfl, _, World.drewN_drewN _ _ _⟩ | exact ⟨rfl, _, Eq.trans (World.drewN_drewN _ _ _) (congrArg (World.drewN _) (Nat.add_assoc _ _ _))⟩)))
        repeat (go_quiet (first | (go_at_call 22; (with_reducible refine (impl_ValidValue.calls k a1_0 a1_1 a1_2 true _ A8.out).mono ?_); rintro e w16 ⟨rfl, hb⟩; have n0_ := mk0 (bB (g := gb298) (o := .cells #[.int .i64 a1_0, .int .i64 a1_1, .string a1_2] 34 (0, 0)) (by (with_reducible repeat (first | apply bN | apply bD | apply bA)); exact BK298.out) hb); have n1_ := mk0 (bB (g := gb299) (o := .cells #[.int .i64 a2_0, .int .i64 a2_1, .string a2_2] 34 (0, 0)) (by (with_reducible repeat (first | apply bN | apply bD | apply bA)); exact BK299.out) hb); have n2_ := mk0 (bB (g := gb300) (o := .cells #[.int .i64 0, .int .i64 0, .string (⟨#[]⟩ : ByteArray)] 34 (0, 0)) (by (with_reducible repeat (first | apply bN | apply bD | apply bA)); exact BK300.out) hb); have n3_ := mk0 (below_step (by repeat (first | (with_reducible first | exact HB.out | apply wA | apply wN | apply wD | refine wS ?_ GE298.out | refine wS ?_ GE299.out | refine wS ?_ GE300.out) | exact HB.out)) hb); clear BK298; clear BK299; clear BK300; clear HB; have BK298 := n0_; have BK299 := n1_; have BK300 := n2_; have HB := n3_; clear n0_ n1_ n2_ n3_; (try clear hb); (try clear hb2); (try clear hk); (try clear hi); have hnb17 := NB299_300.out; have hnc17 := NB300_299.out; have hcz18_0 : w16.cell? ⟨gb299, 0, none⟩ = some (.int .i64 a2_0) := (bC BK299.out 0).trans rfl; have hcz18_1 : w16.cell? ⟨gb299, 1, none⟩ = some (.int .i64 a2_1) := (bC BK299.out 1).trans rfl; have hcz18_2 : w16.cell? ⟨gb299, 2, none⟩ = some (.string a2_2) := (bC BK299.out 2).trans rfl; have hfz18_0 := bF BK299.out 0; have hfz18_1 := bF BK299.out 1; have hfz18_2 := bF BK299.out 2) | (go_at_call 22; (with_reducible refine (impl_ValidValue.calls k a2_0 a2_1 a2_2 true _ A10.out).mono ?_); rintro e w19 ⟨rfl, hb⟩; have n0_ := mk0 (bB (g := gb298) (o := .cells #[.int .i64 a1_0, .int .i64 a1_1, .string a1_2] 34 (0, 0)) (by (with_reducible repeat (first | apply bN | apply bD | apply bA)); exact BK298.out) hb); have n1_ := mk0 (bB (g := gb299) (o := .cells #[.int .i64 a2_0, .int .i64 a2_1, .string a2_2] 34 (0, 0)) (by (with_reducible repeat (first | apply bN | apply bD | apply bA)); exact BK299.out) hb); have n2_ := mk0 (bB (g := gb300) (o := .cells #[.int .i64 0, .int .i64 0, .string (⟨#[]⟩ : ByteArray)] 34 (0, 0)) (by (with_reducible repeat (first | apply bN | apply bD | apply bA)); exact BK300.out) hb); have n3_ := mk0 (below_step (by repeat (first | (with_reducible first | exact HB.out | apply wA | apply wN | apply wD | refine wS ?_ GE298.out | refine wS ?_ GE299.out | refine wS ?_ GE300.out) | exact HB.out)) hb); clear BK298; clear BK299; clear BK300; clear HB; have BK298 := n0_; have BK299 := n1_; have BK300 := n2_; have HB := n3_; clear n0_ n1_ n2_ n3_; (try clear hb); (try clear hb2); (try clear hk); (try clear hi); have hcz20_0 : w19.cell? ⟨gb298, 0, none⟩ = some (.int .i64 a1_0) := (bC BK298.out 0).trans rfl; have hcz20_1 : w19.cell? ⟨gb298, 1, none⟩ = some (.int .i64 a1_1) := (bC BK298.out 1).trans rfl; have hcz20_2 : w19.cell? ⟨gb298, 2, none⟩ = some (.string a1_2) := (bC BK298.out 2).trans rfl; have hfz20_0 := bF BK298.out 0; have hfz20_1 := bF BK298.out 1; have hfz20_2 := bF BK298.out 2; have hcz21_0 : w19.cell? ⟨gb299, 0, none⟩ = some (.int .i64 a2_0) := (bC BK299.out 0).trans rfl; have hcz21_1 : w19.cell? ⟨gb299, 1, none⟩ = some (.int .i64 a2_1) := (bC BK299.out 1).trans rfl; have hcz21_2 : w19.cell? ⟨gb299, 2, none⟩ = some (.string a2_2) := (bC BK299.out 2).trans rfl; have hfz21_0 := bF BK299.out 0; have hfz21_1 := bF BK299.out 1; have hfz21_2 := bF BK299.out 2) | (go_at_call 92; (with_reducible refine (impl_binType.calls k a0 a1_0 a2_0 t303 _ A12.out).mono ?_); rintro e w' ⟨rfl, ⟨nd, rfl⟩⟩; (try first | exact ⟨rfl, _, World.drewN_drewN _ _ _⟩ | exact ⟨rfl, _, Eq.trans (World.drewN_drewN _ _ _) (congrArg (World.drewN _) (Nat.add_assoc _ _ _))⟩))); try go_wp2_with (first | (go_at_call 22; (with_reducible refine (impl_ValidValue.calls k a1_0 a1_1 a1_2 true _ A8.out).mono ?_); rintro e w16 ⟨rfl, hb⟩; have n0_ := mk0 (bB (g := gb298) (o := .cells #[.int .i64 a1_0, .int .i64 a1_1, .string a1_2] 34 (0, 0)) (by (with_reducible repeat (first | apply bN | apply bD | apply bA)); exact BK298.out) hb); have n1_ := mk0 (bB (g := gb299) (o := .cells #[.int .i64 a2_0, .int .i64 a2_1, .string a2_2] 34 (0, 0)) (by (with_reducible repeat (first | apply bN | apply bD | apply bA)); exact BK299.out) hb); have n2_ := mk0 (bB (g := gb300) (o := .cells #[.int .i64 0, .int .i64 0, .string (⟨#[]⟩ : ByteArray)] 34 (0, 0)) (by (with_reducible repeat (first | apply bN | apply bD | apply bA)); exact BK300.out) hb); have n3_ := mk0 (below_step (by repeat (first | (with_reducible first | exact HB.out | apply wA | apply wN | apply wD | refine wS ?_ GE298.out | refine wS ?_ GE299.out | refine wS ?_ GE300.out) | exact HB.out)) hb); clear BK298; clear BK299; clear BK300; clear HB; have BK298 := n0_; have BK299 := n1_; have BK300 := n2_; have HB := n3_; clear n0_ n1_ n2_ n3_; (try clear hb); (try clear hb2); (try clear hk); (try clear hi); have hnb17 := NB299_300.out; have hnc17 := NB300_299.out; have hcz18_0 : w16.cell? ⟨gb299, 0, none⟩ = some (.int .i64 a2_0) := (bC BK299.out 0).trans rfl; have hcz18_1 : w16.cell? ⟨gb299, 1, none⟩ = some (.int .i64 a2_1) := (bC BK299.out 1).trans rfl; have hcz18_2 : w16.cell? ⟨gb299, 2, none⟩ = some (.string a2_2) := (bC BK299.out 2).trans rfl; have hfz18_0 := bF BK299.out 0; have hfz18_1 := bF BK299.out 1; have hfz18_2 := bF BK299.out 2) | (go_at_call 22; (with_reducible refine (impl_ValidValue.calls k a2_0 a2_1 a2_2 true _ A10.out).mono ?_); rintro e w19 ⟨rfl, hb⟩; have n0_ := mk0 (bB (g := gb298) (o := .cells #[.int .i64 a1_0, .int .i64 a1_1, .string a1_2] 34 (0, 0)) (by (with_reducible repeat (first | apply bN | apply bD | apply bA)); exact BK298.out) hb); have n1_ := mk0 (bB (g := gb299) (o := .cells #[.int .i64 a2_0, .int .i64 a2_1, .string a2_2] 34 (0, 0)) (by (with_reducible repeat (first | apply bN | apply bD | apply bA)); exact BK299.out) hb); have n2_ := mk0 (bB (g := gb300) (o := .cells #[.int .i64 0, .int .i64 0, .string (⟨#[]⟩ : ByteArray)] 34 (0, 0)) (by (with_reducible repeat (first | apply bN | apply bD | apply bA)); exact BK300.out) hb); have n3_ := mk0 (below_step (by repeat (first | (with_reducible first | exact HB.out | apply wA | apply wN | apply wD | refine wS ?_ GE298.out | refine wS ?_ GE299.out | refine wS ?_ GE300.out) | exact HB.out)) hb); clear BK298; clear BK299; clear BK300; clear HB; have BK298 := n0_; have BK299 := n1_; have BK300 := n2_; have HB := n3_; clear n0_ n1_ n2_ n3_; (try clear hb); (try clear hb2); (try clear hk); (try clear hi); have hcz20_0 : w19.cell? ⟨gb298, 0, none⟩ = some (.int .i64 a1_0) := (bC BK298.out 0).trans rfl; have hcz20_1 : w19.cell? ⟨gb298, 1, none⟩ = some (.int .i64 a1_1) := (bC BK298.out 1).trans rfl; have hcz20_2 : w19.cell? ⟨gb298, 2, none⟩ = some (.string a1_2) := (bC BK298.out 2).trans rfl; have hfz20_0 := bF BK298.out 0; have hfz20_1 := bF BK298.out 1; have hfz20_2 := bF BK298.out 2; have hcz21_0 : w19.cell? ⟨gb299, 0, none⟩ = some (.int .i64 a2_0) := (bC BK299.out 0).trans rfl; have hcz21_1 : w19.cell? ⟨gb299, 1, none⟩ = some (.int .i64 a2_1) := (bC BK299.out 1).trans rfl; have hcz21_2 : w19.cell? ⟨gb299, 2, none⟩ = some (.string a2_2) := (bC BK299.out 2).trans rfl; have hfz21_0 := bF BK299.out 0; have hfz21_1 := bF BK299.out 1; have hfz21_2 := bF BK299.out 2) | (go_at_call 92; (with_reducible refine (impl_binType.calls k a0 a1_0 a2_0 t303 _ A12.out).mono ?_); rintro e w' ⟨rfl, ⟨nd, rfl⟩⟩; (try first | exact ⟨rfl, _, World.drewN_drewN _ _ _⟩ | exact ⟨rfl, _, Eq.trans (World.drewN_drewN _ _ _) (congrArg (World.drewN _) (Nat.add_assoc _ _ _))⟩))))
        go_meet
        case rel => exact ⟨_, ((t303 == 0)), (by first | rfl | (simp; done) | (simp [*]; done)), H', ⟨by first | omega | exact Nat.le_refl _⟩, ⟨by (with_reducible repeat (first | apply bN | apply bD | apply bA)); exact BK298.out⟩, ⟨by (with_reducible repeat (first | apply bN | apply bD | apply bA)); exact BK299.out⟩, ⟨by (with_reducible repeat (first | apply bN | apply bD | apply bA)); exact BK300.out⟩, ⟨by repeat (first | (with_reducible first | exact HB.out | apply wA | apply wN | apply wD | refine wS ?_ GE298.out | refine wS ?_ GE299.out | refine wS ?_ GE300.out) | exact HB.out)⟩⟩
      replace c11 := Bool.eq_false_iff.mpr c11
      subst c11
      have H1 : (impl_Binary.j0 k a0 true a1_0 a1_1 a1_2 a2_0 a2_1 a2_2) = some (r1, r2, r3, r4) := by rw [if_neg (show ¬ (false = true) by decide)] at H; exact H
      clear H
      have H := H1
      clear H1
      have H' := mk0 H
      clear H
      have hnb22 := NB298_299.out
      have hnc22 := NB299_298.out
      have hnb23 := NB298_300.out
      have hnc23 := NB300_298.out
      have hcz24_0 : w7.cell? ⟨gb298, 0, none⟩ = some (.int .i64 a1_0) := (bC BK298.out 0).trans rfl
      have hcz24_1 : w7.cell? ⟨gb298, 1, none⟩ = some (.int .i64 a1_1) := (bC BK298.out 1).trans rfl
      have hcz24_2 : w7.cell? ⟨gb298, 2, none⟩ = some (.string a1_2) := (bC BK298.out 2).trans rfl
      have hfz24_0 := bF BK298.out 0
      have hfz24_1 := bF BK298.out 1
      have hfz24_2 := bF BK298.out 2
      go_wp2_with (first | (go_at_call 22; (with_reducible refine (impl_ValidValue.calls k a1_0 a1_1 a1_2 true _ A8.out).mono ?_); rintro e w25 ⟨rfl, hb⟩; have n0_ := mk0 (bB (g := gb298) (o := .cells #[.int .i64 a1_0, .int .i64 a1_1, .string a1_2] 34 (0, 0)) (by (with_reducible repeat (first | apply bN | apply bD | apply bA)); exact BK298.out) hb); have n1_ := mk0 (bB (g := gb299) (o := .cells #[.int .i64 a2_0, .int .i64 a2_1, .string a2_2] 34 (0, 0)) (by (with_reducible repeat (first | apply bN | apply bD | apply bA)); exact BK299.out) hb); have n2_ := mk0 (bB (g := gb300) (o := .cells #[.int .i64 0, .int .i64 0, .string (⟨#[]⟩ : ByteArray)] 34 (0, 0)) (by (with_reducible repeat (first | apply bN | apply bD | apply bA)); exact BK300.out) hb); have n3_ := mk0 (below_step (by repeat (first | (with_reducible first | exact HB.out | apply wA | apply wN | apply wD | refine wS ?_ GE298.out | refine wS ?_ GE299.out | refine wS ?_ GE300.out) | exact HB.out)) hb); clear BK298; clear BK299; clear BK300; clear HB; have BK298 := n0_; have BK299 := n1_; have BK300 := n2_; have HB := n3_; clear n0_ n1_ n2_ n3_; (try clear hb); (try clear hb2); (try clear hk); (try clear hi); have hnb26 := NB299_300.out; have hnc26 := NB300_299.out; have hcz27_0 : w25.cell? ⟨gb299, 0, none⟩ = some (.int .i64 a2_0) := (bC BK299.out 0).trans rfl; have hcz27_1 : w25.cell? ⟨gb299, 1, none⟩ = some (.int .i64 a2_1) := (bC BK299.out 1).trans rfl; have hcz27_2 : w25.cell? ⟨gb299, 2, none⟩ = some (.string a2_2) := (bC BK299.out 2).trans rfl; have hfz27_0 := bF BK299.out 0; have hfz27_1 := bF BK299.out 1; have hfz27_2 := bF BK299.out 2) | (go_at_call 22; (with_reducible refine (impl_ValidValue.calls k a2_0 a2_1 a2_2 false _ A10.out).mono ?_); rintro e w28 ⟨rfl, hb⟩; have n0_ := mk0 (bB (g := gb298) (o := .cells #[.int .i64 a1_0, .int .i64 a1_1, .string a1_2] 34 (0, 0)) (by (with_reducible repeat (first | apply bN | apply bD | apply bA)); exact BK298.out) hb); have n1_ := mk0 (bB (g := gb299) (o := .cells #[.int .i64 a2_0, .int .i64 a2_1, .string a2_2] 34 (0, 0)) (by (with_reducible repeat (first | apply bN | apply bD | apply bA)); exact BK299.out) hb); have n2_ := mk0 (bB (g := gb300) (o := .cells #[.int .i64 0, .int .i64 0, .string (⟨#[]⟩ : ByteArray)] 34 (0, 0)) (by (with_reducible repeat (first | apply bN | apply bD | apply bA)); exact BK300.out) hb); have n3_ := mk0 (below_step (by repeat (first | (with_reducible first | exact HB.out | apply wA | apply wN | apply wD | refine wS ?_ GE298.out | refine wS ?_ GE299.out | refine wS ?_ GE300.out) | exact HB.out)) hb); clear BK298; clear BK299; clear BK300; clear HB; have BK298 := n0_; have BK299 := n1_; have BK300 := n2_; have HB := n3_; clear n0_ n1_ n2_ n3_; (try clear hb); (try clear hb2); (try clear hk); (try clear hi)))
      repeat (go_quiet (first | (go_at_call 22; (with_reducible refine (impl_ValidValue.calls k a1_0 a1_1 a1_2 true _ A8.out).mono ?_); rintro e w25 ⟨rfl, hb⟩; have n0_ := mk0 (bB (g := gb298) (o := .cells #[.int .i64 a1_0, .int .i64 a1_1, .string a1_2] 34 (0, 0)) (by (with_reducible repeat (first | apply bN | apply bD | apply bA)); exact BK298.out) hb); have n1_ := mk0 (bB (g := gb299) (o := .cells #[.int .i64 a2_0, .int .i64 a2_1, .string a2_2] 34 (0, 0)) (by (with_reducible repeat (first | apply bN | apply bD | apply bA)); exact BK299.out) hb); have n2_ := mk0 (bB (g := gb300) (o := .cells #[.int .i64 0, .int .i64 0, .string (⟨#[]⟩ : ByteArray)] 34 (0, 0)) (by (with_reducible repeat (first | apply bN | apply bD | apply bA)); exact BK300.out) hb); have n3_ := mk0 (below_step (by repeat (first | (with_reducible first | exact HB.out | apply wA | apply wN | apply wD | refine wS ?_ GE298.out | refine wS ?_ GE299.out | refine wS ?_ GE300.out) | exact HB.out)) hb); clear BK298; clear BK299; clear BK300; clear HB; have BK298 := n0_; have BK299 := n1_; have BK300 := n2_; have HB := n3_; clear n0_ n1_ n2_ n3_; (try clear hb); (try clear hb2); (try clear hk); (try clear hi); have hnb26 := NB299_300.out; have hnc26 := NB300_299.out; have hcz27_0 : w25.cell? ⟨gb299, 0, none⟩ = some (.int .i64 a2_0) := (bC BK299.out 0).trans rfl; have hcz27_1 : w25.cell? ⟨gb299, 1, none⟩ = some (.int .i64 a2_1) := (bC BK299.out 1).trans rfl; have hcz27_2 : w25.cell? ⟨gb299, 2, none⟩ = some (.string a2_2) := (bC BK299.out 2).trans rfl; have hfz27_0 := bF BK299.out 0; have hfz27_1 := bF BK299.out 1; have hfz27_2 := bF BK299.out 2) | (go_at_call 22; (with_reducible refine (impl_ValidValue.calls k a2_0 a2_1 a2_2 false _ A10.out).mono ?_); rintro e w28 ⟨rfl, hb⟩; have n0_ := mk0 (bB (g := gb298) (o := .cells #[.int .i64 a1_0, .int .i64 a1_1, .string a1_2] 34 (0, 0)) (by (with_reducible repeat (first | apply bN | apply bD | apply bA)); exact BK298.out) hb); have n1_ := mk0 (bB (g := gb299) (o := .cells #[.int .i64 a2_0, .int .i64 a2_1, .string a2_2] 34 (0, 0)) (by (with_reducible repeat (first | apply bN | apply bD | apply bA)); exact BK299.out) hb); have n2_ := mk0 (bB (g := gb300) (o := .cells #[.int .i64 0, .int .i64 0, .string (⟨#[]⟩ : ByteArray)] 34 (0, 0)) (by (with_reducible repeat (first | apply bN | apply bD | apply bA)); exact BK300.out) hb); have n3_ := mk0 (below_step (by repeat (first | (with_reducible first | exact HB.out | apply wA | apply wN | apply wD | refine wS ?_ GE298.out | refine wS ?_ GE299.out | refine wS ?_ GE300.out) | exact HB.out)) hb); clear BK298; clear BK299; clear BK300; clear HB; have BK298 := n0_; have BK299 := n1_; have BK300 := n2_; have HB := n3_; clear n0_ n1_ n2_ n3_; (try clear hb); (try clear hb2); (try clear hk); (try clear hi))); try go_wp2_with (first | (go_at_call 22; (with_reducible refine (impl_ValidValue.calls k a1_0 a1_1 a1_2 true _ A8.out).mono ?_); rintro e w25 ⟨rfl, hb⟩; have n0_ := mk0 (bB (g := gb298) (o := .cells #[.int .i64 a1_0, .int .i64 a1_1, .string a1_2] 34 (0, 0)) (by (with_reducible repeat (first | apply bN | apply bD | apply bA)); exact BK298.out) hb); have n1_ := mk0 (bB (g := gb299) (o := .cells #[.int .i64 a2_0, .int .i64 a2_1, .string a2_2] 34 (0, 0)) (by (with_reducible repeat (first | apply bN | apply bD | apply bA)); exact BK299.out) hb); have n2_ := mk0 (bB (g := gb300) (o := .cells #[.int .i64 0, .int .i64 0, .string (⟨#[]⟩ : ByteArray)] 34 (0, 0)) (by (with_reducible repeat (first | apply bN | apply bD | apply bA)); exact BK300.out) hb); have n3_ := mk0 (below_step (by repeat (first | (with_reducible first | exact HB.out | apply wA | apply wN | apply wD | refine wS ?_ GE298.out | refine wS ?_ GE299.out | refine wS ?_ GE300.out) | exact HB.out)) hb); clear BK298; clear BK299; clear BK300; clear HB; have BK298 := n0_; have BK299 := n1_; have BK300 := n2_; have HB := n3_; clear n0_ n1_ n2_ n3_; (try clear hb); (try clear hb2); (try clear hk); (try clear hi); have hnb26 := NB299_300.out; have hnc26 := NB300_299.out; have hcz27_0 : w25.cell? ⟨gb299, 0, none⟩ = some (.int .i64 a2_0) := (bC BK299.out 0).trans rfl; have hcz27_1 : w25.cell? ⟨gb299, 1, none⟩ = some (.int .i64 a2_1) := (bC BK299.out 1).trans rfl; have hcz27_2 : w25.cell? ⟨gb299, 2, none⟩ = some (.string a2_2) := (bC BK299.out 2).trans rfl; have hfz27_0 := bF BK299.out 0; have hfz27_1 := bF BK299.out 1; have hfz27_2 := bF BK299.out 2) | (go_at_call 22; (with_reducible refine (impl_ValidValue.calls k a2_0 a2_1 a2_2 false _ A10.out).mono ?_); rintro e w28 ⟨rfl, hb⟩; have n0_ := mk0 (bB (g := gb298) (o := .cells #[.int .i64 a1_0, .int .i64 a1_1, .string a1_2] 34 (0, 0)) (by (with_reducible repeat (first | apply bN | apply bD | apply bA)); exact BK298.out) hb); have n1_ := mk0 (bB (g := gb299) (o := .cells #[.int .i64 a2_0, .int .i64 a2_1, .string a2_2] 34 (0, 0)) (by (with_reducible repeat (first | apply bN | apply bD | apply bA)); exact BK299.out) hb); have n2_ := mk0 (bB (g := gb300) (o := .cells #[.int .i64 0, .int .i64 0, .string (⟨#[]⟩ : ByteArray)] 34 (0, 0)) (by (with_reducible repeat (first | apply bN | apply bD | apply bA)); exact BK300.out) hb); have n3_ := mk0 (below_step (by repeat (first | (with_reducible first | exact HB.out | apply wA | apply wN | apply wD | refine wS ?_ GE298.out | refine wS ?_ GE299.out | refine wS ?_ GE300.out) | exact HB.out)) hb); clear BK298; clear BK299; clear BK300; clear HB; have BK298 := n0_; have BK299 := n1_; have BK300 := n2_; have HB := n3_; clear n0_ n1_ n2_ n3_; (try clear hb); (try clear hb2); (try clear hk); (try clear hi))))
      go_meet
      case rel => exact ⟨_, (true), (by first | rfl | (simp; done) | (simp [*]; done)), H', ⟨by first | omega | exact Nat.le_refl _⟩, ⟨by (with_reducible repeat (first | apply bN | apply bD | apply bA)); exact BK298.out⟩, ⟨by (with_reducible repeat (first | apply bN | apply bD | apply bA)); exact BK299.out⟩, ⟨by (with_reducible repeat (first | apply bN | apply bD | apply bA)); exact BK300.out⟩, ⟨by repeat (first | (with_reducible first | exact HB.out | apply wA | apply wN | apply wD | refine wS ?_ GE298.out | refine wS ?_ GE299.out | refine wS ?_ GE300.out) | exact HB.out)⟩⟩
    replace c9 := Bool.eq_false_iff.mpr c9
    subst c9
    have H1 : (impl_Binary.j0 k a0 true a1_0 a1_1 a1_2 a2_0 a2_1 a2_2) = some (r1, r2, r3, r4) := by rw [if_neg (show ¬ (false = true) by decide)] at H; exact H
    clear H
    have H := H1
    clear H1
    have H' := mk0 H
    clear H
    have hnb29 := NB298_299.out
    have hnc29 := NB299_298.out
    have hnb30 := NB298_300.out
    have hnc30 := NB300_298.out
    have hcz31_0 : w7.cell? ⟨gb298, 0, none⟩ = some (.int .i64 a1_0) := (bC BK298.out 0).trans rfl
    have hcz31_1 : w7.cell? ⟨gb298, 1, none⟩ = some (.int .i64 a1_1) := (bC BK298.out 1).trans rfl
    have hcz31_2 : w7.cell? ⟨gb298, 2, none⟩ = some (.string a1_2) := (bC BK298.out 2).trans rfl
    have hfz31_0 := bF BK298.out 0
    have hfz31_1 := bF BK298.out 1
    have hfz31_2 := bF BK298.out 2
    go_wp2_with (first | (go_at_call 22; (with_reducible refine (impl_ValidValue.calls k a1_0 a1_1 a1_2 false _ A8.out).mono ?_); rintro e w32 ⟨rfl, hb⟩; have n0_ := mk0 (bB (g := gb298) (o := .cells #[.int .i64 a1_0, .int .i64 a1_1, .string a1_2] 34 (0, 0)) (by (with_reducible repeat (first | apply bN | apply bD | apply bA)); exact BK298.out) hb); have n1_ := mk0 (bB (g := gb299) (o := .cells #[.int .i64 a2_0, .int .i64 a2_1, .string a2_2] 34 (0, 0)) (by (with_reducible repeat (first | apply bN | apply bD | apply bA)); exact BK299.out) hb); have n2_ := mk0 (bB (g := gb300) (o := .cells #[.int .i64 0, .int .i64 0, .string (⟨#[]⟩ : ByteArray)] 34 (0, 0)) (by (with_reducible repeat (first | apply bN | apply bD | apply bA)); exact BK300.out) hb); have n3_ := mk0 (below_step (by repeat (first | (with_reducible first | exact HB.out | apply wA | apply wN | apply wD | refine wS ?_ GE298.out | refine wS ?_ GE299.out | refine wS ?_ GE300.out) | exact HB.out)) hb); clear BK298; clear BK299; clear BK300; clear HB; have BK298 := n0_; have BK299 := n1_; have BK300 := n2_; have HB := n3_; clear n0_ n1_ n2_ n3_; (try clear hb); (try clear hb2); (try clear hk); (try clear hi)))
    repeat (go_quiet (first | (go_at_call 22; (with_reducible refine (impl_ValidValue.calls k a1_0 a1_1 a1_2 false _ A8.out).mono ?_); rintro e w32 ⟨rfl, hb⟩; have n0_ := mk0 (bB (g := gb298) (o := .cells #[.int .i64 a1_0, .int .i64 a1_1, .string a1_2] 34 (0, 0)) (by (with_reducible repeat (first | apply bN | apply bD | apply bA)); exact BK298.out) hb); have n1_ := mk0 (bB (g := gb299) (o := .cells #[.int .i64 a2_0, .int .i64 a2_1, .string a2_2] 34 (0, 0)) (by (with_reducible repeat (first | apply bN | apply bD | apply bA)); exact BK299.out) hb); have n2_ := mk0 (bB (g := gb300) (o := .cells #[.int .i64 0, .int .i64 0, .string (⟨#[]⟩ : ByteArray)] 34 (0, 0)) (by (with_reducible repeat (first | apply bN | apply bD | apply bA)); exact BK300.out) hb); have n3_ := mk0 (below_step (by repeat (first | (with_reducible first | exact HB.out | apply wA | apply wN | apply wD | refine wS ?_ GE298.out | refine wS ?_ GE299.out | refine wS ?_ GE300.out) | exact HB.out)) hb); clear BK298; clear BK299; clear BK300; clear HB; have BK298 := n0_; have BK299 := n1_; have BK300 := n2_; have HB := n3_; clear n0_ n1_ n2_ n3_; (try clear hb); (try clear hb2); (try clear hk); (try clear hi))); try go_wp2_with (first | (go_at_call 22; (with_reducible refine (impl_ValidValue.calls k a1_0 a1_1 a1_2 false _ A8.out).mono ?_); rintro e w32 ⟨rfl, hb⟩; have n0_ := mk0 (bB (g := gb298) (o := .cells #[.int .i64 a1_0, .int .i64 a1_1, .string a1_2] 34 (0, 0)) (by (with_reducible repeat (first | apply bN | apply bD | apply bA)); exact BK298.out) hb); have n1_ := mk0 (bB (g := gb299) (o := .cells #[.int .i64 a2_0, .int .i64 a2_1, .string a2_2] 34 (0, 0)) (by (with_reducible repeat (first | apply bN | apply bD | apply bA)); exact BK299.out) hb); have n2_ := mk0 (bB (g := gb300) (o := .cells #[.int .i64 0, .int .i64 0, .string (⟨#[]⟩ : ByteArray)] 34 (0, 0)) (by (with_reducible repeat (first | apply bN | apply bD | apply bA)); exact BK300.out) hb); have n3_ := mk0 (below_step (by repeat (first | (with_reducible first | exact HB.out | apply wA | apply wN | apply wD | refine wS ?_ GE298.out | refine wS ?_ GE299.out | refine wS ?_ GE300.out) | exact HB.out)) hb); clear BK298; clear BK299; clear BK300; clear HB; have BK298 := n0_; have BK299 := n1_; have BK300 := n2_; have HB := n3_; clear n0_ n1_ n2_ n3_; (try clear hb); (try clear hb2); (try clear hk); (try clear hi))))
    go_meet
    case rel => exact ⟨_, (true), (by first | rfl | (simp; done) | (simp [*]; done)), H', ⟨by first | omega | exact Nat.le_refl _⟩, ⟨by (with_reducible repeat (first | apply bN | apply bD | apply bA)); exact BK298.out⟩, ⟨by (with_reducible repeat (first | apply bN | apply bD | apply bA)); exact BK299.out⟩, ⟨by (with_reducible repeat (first | apply bN | apply bD | apply bA)); exact BK300.out⟩, ⟨by repeat (first | (with_reducible first | exact HB.out | apply wA | apply wN | apply wD | refine wS ?_ GE298.out | refine wS ?_ GE299.out | refine wS ?_ GE300.out) | exact HB.out)⟩⟩
  clear HC4
  try clear c1
  try clear c2
  try clear p2
  try clear c3
  try clear c5
  try clear c9
  try clear c11
  try clear c13
  try clear c14
  try clear c17
  try clear c22
  try clear c23
  try clear c26
  try clear c29
  try clear c30
  try clear hcz15_0
  try clear hcz15_1
  try clear hcz15_2
  try clear hcz18_0
  try clear hcz18_1
  try clear hcz18_2
  try clear hcz20_0
  try clear hcz20_1
  try clear hcz20_2
  try clear hcz21_0
  try clear hcz21_1
  try clear hcz21_2
  try clear hcz24_0
  try clear hcz24_1
  try clear hcz24_2
  try clear hcz27_0
  try clear hcz27_1
  try clear hcz27_2
  try clear hcz31_0
  try clear hcz31_1
  try clear hcz31_2
  try clear hfz15_0
  try clear hfz15_1
  try clear hfz15_2
  try clear hfz18_0
  try clear hfz18_1
  try clear hfz18_2
  try clear hfz20_0
  try clear hfz20_1
  try clear hfz20_2
  try clear hfz21_0
  try clear hfz21_1
  try clear hfz21_2
  try clear hfz24_0
  try clear hfz24_1
  try clear hfz24_2
  try clear hfz27_0
  try clear hfz27_1
  try clear hfz27_2
  try clear hfz31_0
  try clear hfz31_1
  try clear hfz31_2
  obtain ⟨kq, x29_3, rfl, HA, HJ3, BK298, BK299, BK300, HB⟩ := hcut
  cases kq with
  | zero => exact absurd HA.out (by simp [impl_Binary.j0])
  | succ kj3 =>
  have H := HA.out
  clear HA
  simp only [impl_Binary.j0] at H
  by_cases c33 : x29_3 = true
  · subst c33
    have H1 : (some (0, 0, (⟨#[]⟩ : ByteArray), (⟨#[116, 121, 112, 101]⟩ : ByteArray))) = some (r1, r2, r3, r4) := by rw [if_pos rfl] at H; exact H
    clear H
    have H := H1
    clear H1
    simp only [Option.some.injEq, Prod.mk.injEq] at H
    obtain ⟨rfl, rfl, rfl, rfl⟩ := H
    have hnb34 := NB300_298.out
    have hnc34 := NB298_300.out
    have hnb35 := NB300_299.out
    have hnc35 := NB299_300.out
    have hcz36_0 : wc.cell? ⟨gb300, 0, none⟩ = some (.int .i64 0) := (bC BK300.out 0).trans rfl
    have hcz36_1 : wc.cell? ⟨gb300, 1, none⟩ = some (.int .i64 0) := (bC BK300.out 1).trans rfl
    have hcz36_2 : wc.cell? ⟨gb300, 2, none⟩ = some (.string (⟨#[]⟩ : ByteArray)) := (bC BK300.out 2).trans rfl
    have hfz36_0 := bF BK300.out 0
    have hfz36_1 := bF BK300.out 1
    have hfz36_2 := bF BK300.out 2
    go_wp2
    repeat (go_quiet (fail); try go_wp2)
    refine bodyPost_ret (results_ct rfl _ _ gb300 34 #[.int .i64 0, .int .i64 0, .string (⟨#[]⟩ : ByteArray)] (0, 0) _ rfl (by (with_reducible repeat (first | apply bN | apply bD | apply bA)); refine blk_put (cs := #[.int .i64 0, .int .i64 0, .string (⟨#[]⟩ : ByteArray)]) ?_ 2 _ rfl; (with_reducible repeat (first | apply bN | apply bD | apply bA)); refine blk_put (cs := #[.int .i64 0, .int .i64 0, .string (⟨#[]⟩ : ByteArray)]) ?_ 1 _ rfl; (with_reducible repeat (first | apply bN | apply bD | apply bA)); refine blk_put (cs := #[.int .i64 0, .int .i64 0, .string (⟨#[]⟩ : ByteArray)]) ?_ 0 _ rfl; (with_reducible repeat (first | apply bN | apply bD | apply bA)); exact BK300.out) Try.underlying34 rfl (by kernel_rfl)) rfl ?_
    exact ⟨by first | rfl | (simp [errW_none, errW_some] <;> rfl) | (simp [*, errW_none, errW_some] <;> rfl), by repeat (first | (with_reducible first | exact HB.out | apply wA | apply wN | apply wD | refine wS ?_ GE298.out | refine wS ?_ GE299.out | refine wS ?_ GE300.out) | exact HB.out)⟩
  replace c33 := Bool.eq_false_iff.mpr c33
  subst c33
  have H1 : (if a0 = 1 then ((impl_truth.f ((Go.bits .or .i64 a1_1 a2_1) == 1)).bind fun bt304 => (some (bt304.1, bt304.2.1, bt304.2.2, (⟨#[]⟩ : ByteArray)))) else (if a0 = 2 then ((impl_truth.f ((Go.bits .and .i64 a1_1 a2_1) == 1)).bind fun bt307 => (some (bt307.1, bt307.2.1, bt307.2.2, (⟨#[]⟩ : ByteArray)))) else (if a0 = 3 then ((impl_truth.f (a1_0 == a2_0 && (a1_1 == a2_1 && (a1_2.toList == a2_2.toList)))).bind fun bt310 => (some (bt310.1, bt310.2.1, bt310.2.2, (⟨#[]⟩ : ByteArray)))) else (if a0 = 4 then ((impl_truth.f (!(a1_0 == a2_0) || (!(a1_1 == a2_1) || (!(a1_2.toList == a2_2.toList))))).bind fun bt313 => (some (bt313.1, bt313.2.1, bt313.2.2, (⟨#[]⟩ : ByteArray)))) else (if a0 = 5 then ((impl_order.f kj3 a1_0 a1_1 a1_2 a2_0 a2_1 a2_2).bind fun t316 => ((impl_truth.f (decide (t316 < 0))).bind fun bt317 => (some (bt317.1, bt317.2.1, bt317.2.2, (⟨#[]⟩ : ByteArray))))) else (if a0 = 6 then ((impl_order.f kj3 a1_0 a1_1 a1_2 a2_0 a2_1 a2_2).bind fun t320 => ((impl_truth.f (decide (t320 ≤ 0))).bind fun bt321 => (some (bt321.1, bt321.2.1, bt321.2.2, (⟨#[]⟩ : ByteArray))))) else (if a0 = 7 then ((impl_order.f kj3 a1_0 a1_1 a1_2 a2_0 a2_1 a2_2).bind fun t324 => ((impl_truth.f (decide (t324 > 0))).bind fun bt325 => (some (bt325.1, bt325.2.1, bt325.2.2, (⟨#[]⟩ : ByteArray))))) else (if a0 = 8 then ((impl_order.f kj3 a1_0 a1_1 a1_2 a2_0 a2_1 a2_2).bind fun t328 => ((impl_truth.f (decide (t328 ≥ 0))).bind fun bt329 => (some (bt329.1, bt329.2.1, bt329.2.2, (⟨#[]⟩ : ByteArray))))) else (if a1_0 = 2 then (if a1_2.size + a2_2.size ≤ 9223372036854775807 then (if ((a1_2 ++ a2_2).size : Int) > 3000 then (some (0, 0, (⟨#[]⟩ : ByteArray), (⟨#[108, 111, 110, 103]⟩ : ByteArray))) else (some (2, 0, a1_2 ++ a2_2, (⟨#[]⟩ : ByteArray)))) else (none)) else (if a0 = 9 then ((impl_into.f kj3 (IntKind.u64.wrap ((IntKind.u64.wrap (a1_1)) + (IntKind.u64.wrap (a2_1)))) a1_0).bind fun t332 => (some (a1_0, t332, (⟨#[]⟩ : ByteArray), (⟨#[]⟩ : ByteArray)))) else (if a0 = 10 then ((impl_into.f kj3 (IntKind.u64.wrap ((IntKind.u64.wrap (a1_1)) - (IntKind.u64.wrap (a2_1)))) a1_0).bind fun t333 => (some (a1_0, t333, (⟨#[]⟩ : ByteArray), (⟨#[]⟩ : ByteArray)))) else (if a0 = 13 then ((impl_into.f kj3 (IntKind.u64.wrap ((IntKind.u64.wrap (a1_1)) * (IntKind.u64.wrap (a2_1)))) a1_0).bind fun t334 => (some (a1_0, t334, (⟨#[]⟩ : ByteArray), (⟨#[]⟩ : ByteArray)))) else (if a0 = 11 then ((impl_into.f kj3 (Go.bits .or .u64 (IntKind.u64.wrap (a1_1)) (IntKind.u64.wrap (a2_1))) a1_0).bind fun t335 => (some (a1_0, t335, (⟨#[]⟩ : ByteArray), (⟨#[]⟩ : ByteArray)))) else (if a0 = 12 then ((impl_into.f kj3 (Go.bits .xor .u64 (IntKind.u64.wrap (a1_1)) (IntKind.u64.wrap (a2_1))) a1_0).bind fun t336 => (some (a1_0, t336, (⟨#[]⟩ : ByteArray), (⟨#[]⟩ : ByteArray)))) else (if a0 = 16 then ((impl_into.f kj3 (Go.bits .and .u64 (IntKind.u64.wrap (a1_1)) (IntKind.u64.wrap (a2_1))) a1_0).bind fun t337 => (some (a1_0, t337, (⟨#[]⟩ : ByteArray), (⟨#[]⟩ : ByteArray)))) else (if a0 = 14 then (impl_Binary.j1 kj3 a0 a1_0 (IntKind.u64.wrap (a2_1)) (a0 == 14) a1_0 a1_1 a1_2 a2_0 a2_1 a2_2) else (impl_Binary.j1 kj3 a0 a1_0 (IntKind.u64.wrap (a2_1)) (a0 == 15) a1_0 a1_1 a1_2 a2_0 a2_1 a2_2))))))))))))))))) = some (r1, r2, r3, r4) := by rw [if_neg (show ¬ (false = true) by decide)] at H; exact H
  clear H
  have H := H1
  clear H1
  by_cases c37 : a0 = 1
  · rw [if_pos c37] at H
    have c37b0 : (a0 == 1) = true := beq_iff_eq.mpr c37
    have c37b1 : (a0 != 1) = false := bne_eq_false_iff_eq.mpr c37
    clear c37
    replace H := Option.bind_eq_some_iff.mp H
    obtain ⟨⟨t304, t305, t306⟩, A380, H⟩ := H
    replace H : (some (t304, t305, t306, (⟨#[]⟩ : ByteArray))) = some (r1, r2, r3, r4) := H
    have A38 := mk0 A380
    clear A380
    simp only [Option.some.injEq, Prod.mk.injEq] at H
    obtain ⟨rfl, rfl, rfl, rfl⟩ := H
    have hnb39 := NB298_299.out
    have hnc39 := NB299_298.out
    have hnb40 := NB298_300.out
    have hnc40 := NB300_298.out
    have hcz41_0 : wc.cell? ⟨gb298, 0, none⟩ = some (.int .i64 a1_0) := (bC BK298.out 0).trans rfl
    have hcz41_1 : wc.cell? ⟨gb298, 1, none⟩ = some (.int .i64 a1_1) := (bC BK298.out 1).trans rfl
    have hcz41_2 : wc.cell? ⟨gb298, 2, none⟩ = some (.string a1_2) := (bC BK298.out 2).trans rfl
    have hfz41_0 := bF BK298.out 0
    have hfz41_1 := bF BK298.out 1
    have hfz41_2 := bF BK298.out 2
    have hnb42 := NB299_300.out
    have hnc42 := NB300_299.out
    have hcz43_0 : wc.cell? ⟨gb299, 0, none⟩ = some (.int .i64 a2_0) := (bC BK299.out 0).trans rfl
    have hcz43_1 : wc.cell? ⟨gb299, 1, none⟩ = some (.int .i64 a2_1) := (bC BK299.out 1).trans rfl
    have hcz43_2 : wc.cell? ⟨gb299, 2, none⟩ = some (.string a2_2) := (bC BK299.out 2).trans rfl
    have hfz43_0 := bF BK299.out 0
    have hfz43_1 := bF BK299.out 1
    have hfz43_2 := bF BK299.out 2
    go_wp2_with (first | (go_at_call 72; (with_reducible refine (impl_truth.calls ((Go.bits .or .i64 a1_1 a2_1) == 1) t304 t305 t306 _ A38.out).mono ?_); rintro e w44 ⟨rfl, hb⟩; have n0_ := mk0 (bB (g := gb298) (o := .cells #[.int .i64 a1_0, .int .i64 a1_1, .string a1_2] 34 (0, 0)) (by (with_reducible repeat (first | apply bN | apply bD | apply bA)); exact BK298.out) hb); have n1_ := mk0 (bB (g := gb299) (o := .cells #[.int .i64 a2_0, .int .i64 a2_1, .string a2_2] 34 (0, 0)) (by (with_reducible repeat (first | apply bN | apply bD | apply bA)); exact BK299.out) hb); have n2_ := mk0 (bB (g := gb300) (o := .cells #[.int .i64 0, .int .i64 0, .string (⟨#[]⟩ : ByteArray)] 34 (0, 0)) (by (with_reducible repeat (first | apply bN | apply bD | apply bA)); exact BK300.out) hb); have n3_ := mk0 (below_step (by repeat (first | (with_reducible first | exact HB.out | apply wA | apply wN | apply wD | refine wS ?_ GE298.out | refine wS ?_ GE299.out | refine wS ?_ GE300.out) | exact HB.out)) hb); clear BK298; clear BK299; clear BK300; clear HB; have BK298 := n0_; have BK299 := n1_; have BK300 := n2_; have HB := n3_; clear n0_ n1_ n2_ n3_; (try clear hb); (try clear hb2); (try clear hk); (try clear hi); have hcz45_0 : w44.cell? ⟨gb300, 0, none⟩ = some (.int .i64 0) := (bC BK300.out 0).trans rfl; have hcz45_1 : w44.cell? ⟨gb300, 1, none⟩ = some (.int .i64 0) := (bC BK300.out 1).trans rfl; have hcz45_2 : w44.cell? ⟨gb300, 2, none⟩ = some (.string (⟨#[]⟩ : ByteArray)) := (bC BK300.out 2).trans rfl; have hfz45_0 := bF BK300.out 0; have hfz45_1 := bF BK300.out 1; have hfz45_2 := bF BK300.out 2))
    repeat (go_quiet (first | (go_at_call 72; (with_reducible refine (impl_truth.calls ((Go.bits .or .i64 a1_1 a2_1) == 1) t304 t305 t306 _ A38.out).mono ?_); rintro e w44 ⟨rfl, hb⟩; have n0_ := mk0 (bB (g := gb298) (o := .cells #[.int .i64 a1_0, .int .i64 a1_1, .string a1_2] 34 (0, 0)) (by (with_reducible repeat (first | apply bN | apply bD | apply bA)); exact BK298.out) hb); have n1_ := mk0 (bB (g := gb299) (o := .cells #[.int .i64 a2_0, .int .i64 a2_1, .string a2_2] 34 (0, 0)) (by (with_reducible repeat (first | apply bN | apply bD | apply bA)); exact BK299.out) hb); have n2_ := mk0 (bB (g := gb300) (o := .cells #[.int .i64 0, .int .i64 0, .string (⟨#[]⟩ : ByteArray)] 34 (0, 0)) (by (with_reducible repeat (first | apply bN | apply bD | apply bA)); exact BK300.out) hb); have n3_ := mk0 (below_step (by repeat (first | (with_reducible first | exact HB.out | apply wA | apply wN | apply wD | refine wS ?_ GE298.out | refine wS ?_ GE299.out | refine wS ?_ GE300.out) | exact HB.out)) hb); clear BK298; clear BK299; clear BK300; clear HB; have BK298 := n0_; have BK299 := n1_; have BK300 := n2_; have HB := n3_; clear n0_ n1_ n2_ n3_; (try clear hb); (try clear hb2); (try clear hk); (try clear hi); have hcz45_0 : w44.cell? ⟨gb300, 0, none⟩ = some (.int .i64 0) := (bC BK300.out 0).trans rfl; have hcz45_1 : w44.cell? ⟨gb300, 1, none⟩ = some (.int .i64 0) := (bC BK300.out 1).trans rfl; have hcz45_2 : w44.cell? ⟨gb300, 2, none⟩ = some (.string (⟨#[]⟩ : ByteArray)) := (bC BK300.out 2).trans rfl; have hfz45_0 := bF BK300.out 0; have hfz45_1 := bF BK300.out 1; have hfz45_2 := bF BK300.out 2)); try go_wp2_with (first | (go_at_call 72; (with_reducible refine (impl_truth.calls ((Go.bits .or .i64 a1_1 a2_1) == 1) t304 t305 t306 _ A38.out).mono ?_); rintro e w44 ⟨rfl, hb⟩; have n0_ := mk0 (bB (g := gb298) (o := .cells #[.int .i64 a1_0, .int .i64 a1_1, .string a1_2] 34 (0, 0)) (by (with_reducible repeat (first | apply bN | apply bD | apply bA)); exact BK298.out) hb); have n1_ := mk0 (bB (g := gb299) (o := .cells #[.int .i64 a2_0, .int .i64 a2_1, .string a2_2] 34 (0, 0)) (by (with_reducible repeat (first | apply bN | apply bD | apply bA)); exact BK299.out) hb); have n2_ := mk0 (bB (g := gb300) (o := .cells #[.int .i64 0, .int .i64 0, .string (⟨#[]⟩ : ByteArray)] 34 (0, 0)) (by (with_reducible repeat (first | apply bN | apply bD | apply bA)); exact BK300.out) hb); have n3_ := mk0 (below_step (by repeat (first | (with_reducible first | exact HB.out | apply wA | apply wN | apply wD | refine wS ?_ GE298.out | refine wS ?_ GE299.out | refine wS ?_ GE300.out) | exact HB.out)) hb); clear BK298; clear BK299; clear BK300; clear HB; have BK298 := n0_; have BK299 := n1_; have BK300 := n2_; have HB := n3_; clear n0_ n1_ n2_ n3_; (try clear hb); (try clear hb2); (try clear hk); (try clear hi); have hcz45_0 : w44.cell? ⟨gb300, 0, none⟩ = some (.int .i64 0) := (bC BK300.out 0).trans rfl; have hcz45_1 : w44.cell? ⟨gb300, 1, none⟩ = some (.int .i64 0) := (bC BK300.out 1).trans rfl; have hcz45_2 : w44.cell? ⟨gb300, 2, none⟩ = some (.string (⟨#[]⟩ : ByteArray)) := (bC BK300.out 2).trans rfl; have hfz45_0 := bF BK300.out 0; have hfz45_1 := bF BK300.out 1; have hfz45_2 := bF BK300.out 2)))
    refine bodyPost_ret (results_ct rfl _ _ gb300 34 #[.int .i64 t304, .int .i64 t305, .string t306] (0, 0) _ rfl (by (with_reducible repeat (first | apply bN | apply bD | apply bA)); refine blk_put (cs := #[.int .i64 t304, .int .i64 t305, .string (⟨#[]⟩ : ByteArray)]) ?_ 2 _ rfl; (with_reducible repeat (first | apply bN | apply bD | apply bA)); refine blk_put (cs := #[.int .i64 t304, .int .i64 0, .string (⟨#[]⟩ : ByteArray)]) ?_ 1 _ rfl; (with_reducible repeat (first | apply bN | apply bD | apply bA)); refine blk_put (cs := #[.int .i64 0, .int .i64 0, .string (⟨#[]⟩ : ByteArray)]) ?_ 0 _ rfl; (with_reducible repeat (first | apply bN | apply bD | apply bA)); exact BK300.out) Try.underlying34 rfl (by kernel_rfl)) rfl ?_
    exact ⟨by first | rfl | (simp [errW_none, errW_some] <;> rfl) | (simp [*, errW_none, errW_some] <;> rfl), by repeat (first | (with_reducible first | exact HB.out | apply wA | apply wN | apply wD | refine wS ?_ GE298.out | refine wS ?_ GE299.out | refine wS ?_ GE300.out) | exact HB.out)⟩
  rw [if_neg c37] at H
  have c37b0 : (a0 == 1) = false := beq_eq_false_iff_ne.mpr c37
  have c37b1 : (a0 != 1) = true := bne_iff_ne.mpr c37
  by_cases c46 : a0 = 2
  · rw [if_pos c46] at H
    have c46b0 : (a0 == 2) = true := beq_iff_eq.mpr c46
    have c46b1 : (a0 != 2) = false := bne_eq_false_iff_eq.mpr c46
    clear c46
    replace H := Option.bind_eq_some_iff.mp H
    obtain ⟨⟨t307, t308, t309⟩, A470, H⟩ := H
    replace H : (some (t307, t308, t309, (⟨#[]⟩ : ByteArray))) = some (r1, r2, r3, r4) := H
    have A47 := mk0 A470
    clear A470
    simp only [Option.some.injEq, Prod.mk.injEq] at H
    obtain ⟨rfl, rfl, rfl, rfl⟩ := H
    have hnb48 := NB298_299.out
    have hnc48 := NB299_298.out
    have hnb49 := NB298_300.out
    have hnc49 := NB300_298.out
    have hcz50_0 : wc.cell? ⟨gb298, 0, none⟩ = some (.int .i64 a1_0) := (bC BK298.out 0).trans rfl
    have hcz50_1 : wc.cell? ⟨gb298, 1, none⟩ = some (.int .i64 a1_1) := (bC BK298.out 1).trans rfl
    have hcz50_2 : wc.cell? ⟨gb298, 2, none⟩ = some (.string a1_2) := (bC BK298.out 2).trans rfl
    have hfz50_0 := bF BK298.out 0
    have hfz50_1 := bF BK298.out 1
    have hfz50_2 := bF BK298.out 2
    have hnb51 := NB299_300.out
    have hnc51 := NB300_299.out
    have hcz52_0 : wc.cell? ⟨gb299, 0, none⟩ = some (.int .i64 a2_0) := (bC BK299.out 0).trans rfl
    have hcz52_1 : wc.cell? ⟨gb299, 1, none⟩ = some (.int .i64 a2_1) := (bC BK299.out 1).trans rfl
    have hcz52_2 : wc.cell? ⟨gb299, 2, none⟩ = some (.string a2_2) := (bC BK299.out 2).trans rfl
    have hfz52_0 := bF BK299.out 0
    have hfz52_1 := bF BK299.out 1
    have hfz52_2 := bF BK299.out 2
    go_wp2_with (first | (go_at_call 72; (with_reducible refine (impl_truth.calls ((Go.bits .and .i64 a1_1 a2_1) == 1) t307 t308 t309 _ A47.out).mono ?_); rintro e w53 ⟨rfl, hb⟩; have n0_ := mk0 (bB (g := gb298) (o := .cells #[.int .i64 a1_0, .int .i64 a1_1, .string a1_2] 34 (0, 0)) (by (with_reducible repeat (first | apply bN | apply bD | apply bA)); exact BK298.out) hb); have n1_ := mk0 (bB (g := gb299) (o := .cells #[.int .i64 a2_0, .int .i64 a2_1, .string a2_2] 34 (0, 0)) (by (with_reducible repeat (first | apply bN | apply bD | apply bA)); exact BK299.out) hb); have n2_ := mk0 (bB (g := gb300) (o := .cells #[.int .i64 0, .int .i64 0, .string (⟨#[]⟩ : ByteArray)] 34 (0, 0)) (by (with_reducible repeat (first | apply bN | apply bD | apply bA)); exact BK300.out) hb); have n3_ := mk0 (below_step (by repeat (first | (with_reducible first | exact HB.out | apply wA | apply wN | apply wD | refine wS ?_ GE298.out | refine wS ?_ GE299.out | refine wS ?_ GE300.out) | exact HB.out)) hb); clear BK298; clear BK299; clear BK300; clear HB; have BK298 := n0_; have BK299 := n1_; have BK300 := n2_; have HB := n3_; clear n0_ n1_ n2_ n3_; (try clear hb); (try clear hb2); (try clear hk); (try clear hi); have hcz54_0 : w53.cell? ⟨gb300, 0, none⟩ = some (.int .i64 0) := (bC BK300.out 0).trans rfl; have hcz54_1 : w53.cell? ⟨gb300, 1, none⟩ = some (.int .i64 0) := (bC BK300.out 1).trans rfl; have hcz54_2 : w53.cell? ⟨gb300, 2, none⟩ = some (.string (⟨#[]⟩ : ByteArray)) := (bC BK300.out 2).trans rfl; have hfz54_0 := bF BK300.out 0; have hfz54_1 := bF BK300.out 1; have hfz54_2 := bF BK300.out 2))
    repeat (go_quiet (first | (go_at_call 72; (with_reducible refine (impl_truth.calls ((Go.bits .and .i64 a1_1 a2_1) == 1) t307 t308 t309 _ A47.out).mono ?_); rintro e w53 ⟨rfl, hb⟩; have n0_ := mk0 (bB (g := gb298) (o := .cells #[.int .i64 a1_0, .int .i64 a1_1, .string a1_2] 34 (0, 0)) (by (with_reducible repeat (first | apply bN | apply bD | apply bA)); exact BK298.out) hb); have n1_ := mk0 (bB (g := gb299) (o := .cells #[.int .i64 a2_0, .int .i64 a2_1, .string a2_2] 34 (0, 0)) (by (with_reducible repeat (first | apply bN | apply bD | apply bA)); exact BK299.out) hb); have n2_ := mk0 (bB (g := gb300) (o := .cells #[.int .i64 0, .int .i64 0, .string (⟨#[]⟩ : ByteArray)] 34 (0, 0)) (by (with_reducible repeat (first | apply bN | apply bD | apply bA)); exact BK300.out) hb); have n3_ := mk0 (below_step (by repeat (first | (with_reducible first | exact HB.out | apply wA | apply wN | apply wD | refine wS ?_ GE298.out | refine wS ?_ GE299.out | refine wS ?_ GE300.out) | exact HB.out)) hb); clear BK298; clear BK299; clear BK300; clear HB; have BK298 := n0_; have BK299 := n1_; have BK300 := n2_; have HB := n3_; clear n0_ n1_ n2_ n3_; (try clear hb); (try clear hb2); (try clear hk); (try clear hi); have hcz54_0 : w53.cell? ⟨gb300, 0, none⟩ = some (.int .i64 0) := (bC BK300.out 0).trans rfl; have hcz54_1 : w53.cell? ⟨gb300, 1, none⟩ = some (.int .i64 0) := (bC BK300.out 1).trans rfl; have hcz54_2 : w53.cell? ⟨gb300, 2, none⟩ = some (.string (⟨#[]⟩ : ByteArray)) := (bC BK300.out 2).trans rfl; have hfz54_0 := bF BK300.out 0; have hfz54_1 := bF BK300.out 1; have hfz54_2 := bF BK300.out 2)); try go_wp2_with (first | (go_at_call 72; (with_reducible refine (impl_truth.calls ((Go.bits .and .i64 a1_1 a2_1) == 1) t307 t308 t309 _ A47.out).mono ?_); rintro e w53 ⟨rfl, hb⟩; have n0_ := mk0 (bB (g := gb298) (o := .cells #[.int .i64 a1_0, .int .i64 a1_1, .string a1_2] 34 (0, 0)) (by (with_reducible repeat (first | apply bN | apply bD | apply bA)); exact BK298.out) hb); have n1_ := mk0 (bB (g := gb299) (o := .cells #[.int .i64 a2_0, .int .i64 a2_1, .string a2_2] 34 (0, 0)) (by (with_reducible repeat (first | apply bN | apply bD | apply bA)); exact BK299.out) hb); have n2_ := mk0 (bB (g := gb300) (o := .cells #[.int .i64 0, .int .i64 0, .string (⟨#[]⟩ : ByteArray)] 34 (0, 0)) (by (with_reducible repeat (first | apply bN | apply bD | apply bA)); exact BK300.out) hb); have n3_ := mk0 (below_step (by repeat (first | (with_reducible first | exact HB.out | apply wA | apply wN | apply wD | refine wS ?_ GE298.out | refine wS ?_ GE299.out | refine wS ?_ GE300.out) | exact HB.out)) hb); clear BK298; clear BK299; clear BK300; clear HB; have BK298 := n0_; have BK299 := n1_; have BK300 := n2_; have HB := n3_; clear n0_ n1_ n2_ n3_; (try clear hb); (try clear hb2); (try clear hk); (try clear hi); have hcz54_0 : w53.cell? ⟨gb300, 0, none⟩ = some (.int .i64 0) := (bC BK300.out 0).trans rfl; have hcz54_1 : w53.cell? ⟨gb300, 1, none⟩ = some (.int .i64 0) := (bC BK300.out 1).trans rfl; have hcz54_2 : w53.cell? ⟨gb300, 2, none⟩ = some (.string (⟨#[]⟩ : ByteArray)) := (bC BK300.out 2).trans rfl; have hfz54_0 := bF BK300.out 0; have hfz54_1 := bF BK300.out 1; have hfz54_2 := bF BK300.out 2)))
    refine bodyPost_ret (results_ct rfl _ _ gb300 34 #[.int .i64 t307, .int .i64 t308, .string t309] (0, 0) _ rfl (by (with_reducible repeat (first | apply bN | apply bD | apply bA)); refine blk_put (cs := #[.int .i64 t307, .int .i64 t308, .string (⟨#[]⟩ : ByteArray)]) ?_ 2 _ rfl; (with_reducible repeat (first | apply bN | apply bD | apply bA)); refine blk_put (cs := #[.int .i64 t307, .int .i64 0, .string (⟨#[]⟩ : ByteArray)]) ?_ 1 _ rfl; (with_reducible repeat (first | apply bN | apply bD | apply bA)); refine blk_put (cs := #[.int .i64 0, .int .i64 0, .string (⟨#[]⟩ : ByteArray)]) ?_ 0 _ rfl; (with_reducible repeat (first | apply bN | apply bD | apply bA)); exact BK300.out) Try.underlying34 rfl (by kernel_rfl)) rfl ?_
    exact ⟨by first | rfl | (simp [errW_none, errW_some] <;> rfl) | (simp [*, errW_none, errW_some] <;> rfl), by repeat (first | (with_reducible first | exact HB.out | apply wA | apply wN | apply wD | refine wS ?_ GE298.out | refine wS ?_ GE299.out | refine wS ?_ GE300.out) | exact HB.out)⟩
  rw [if_neg c46] at H
  have c46b0 : (a0 == 2) = false := beq_eq_false_iff_ne.mpr c46
  have c46b1 : (a0 != 2) = true := bne_iff_ne.mpr c46
  by_cases c55 : a0 = 3
  · rw [if_pos c55] at H
    have c55b0 : (a0 == 3) = true := beq_iff_eq.mpr c55
    have c55b1 : (a0 != 3) = false := bne_eq_false_iff_eq.mpr c55
    clear c55
    replace H := Option.bind_eq_some_iff.mp H
    obtain ⟨⟨t310, t311, t312⟩, A560, H⟩ := H
    replace H : (some (t310, t311, t312, (⟨#[]⟩ : ByteArray))) = some (r1, r2, r3, r4) := H
    have A56 := mk0 A560
    clear A560
    simp only [Option.some.injEq, Prod.mk.injEq] at H
    obtain ⟨rfl, rfl, rfl, rfl⟩ := H
    have hnb57 := NB298_299.out
    have hnc57 := NB299_298.out
    have hnb58 := NB298_300.out
    have hnc58 := NB300_298.out
    have hcz59_0 : wc.cell? ⟨gb298, 0, none⟩ = some (.int .i64 a1_0) := (bC BK298.out 0).trans rfl
    have hcz59_1 : wc.cell? ⟨gb298, 1, none⟩ = some (.int .i64 a1_1) := (bC BK298.out 1).trans rfl
    have hcz59_2 : wc.cell? ⟨gb298, 2, none⟩ = some (.string a1_2) := (bC BK298.out 2).trans rfl
    have hfz59_0 := bF BK298.out 0
    have hfz59_1 := bF BK298.out 1
    have hfz59_2 := bF BK298.out 2
    have hnb60 := NB299_300.out
    have hnc60 := NB300_299.out
    have hcz61_0 : wc.cell? ⟨gb299, 0, none⟩ = some (.int .i64 a2_0) := (bC BK299.out 0).trans rfl
    have hcz61_1 : wc.cell? ⟨gb299, 1, none⟩ = some (.int .i64 a2_1) := (bC BK299.out 1).trans rfl
    have hcz61_2 : wc.cell? ⟨gb299, 2, none⟩ = some (.string a2_2) := (bC BK299.out 2).trans rfl
    have hfz61_0 := bF BK299.out 0
    have hfz61_1 := bF BK299.out 1
    have hfz61_2 := bF BK299.out 2
    go_wp2_with (first | (go_at_call 72; (with_reducible refine (impl_truth.calls (a1_0 == a2_0 && (a1_1 == a2_1 && (a1_2.toList == a2_2.toList))) t310 t311 t312 _ A56.out).mono ?_); rintro e w62 ⟨rfl, hb⟩; have n0_ := mk0 (bB (g := gb298) (o := .cells #[.int .i64 a1_0, .int .i64 a1_1, .string a1_2] 34 (0, 0)) (by (with_reducible repeat (first | apply bN | apply bD | apply bA)); exact BK298.out) hb); have n1_ := mk0 (bB (g := gb299) (o := .cells #[.int .i64 a2_0, .int .i64 a2_1, .string a2_2] 34 (0, 0)) (by (with_reducible repeat (first | apply bN | apply bD | apply bA)); exact BK299.out) hb); have n2_ := mk0 (bB (g := gb300) (o := .cells #[.int .i64 0, .int .i64 0, .string (⟨#[]⟩ : ByteArray)] 34 (0, 0)) (by (with_reducible repeat (first | apply bN | apply bD | apply bA)); exact BK300.out) hb); have n3_ := mk0 (below_step (by repeat (first | (with_reducible first | exact HB.out | apply wA | apply wN | apply wD | refine wS ?_ GE298.out | refine wS ?_ GE299.out | refine wS ?_ GE300.out) | exact HB.out)) hb); clear BK298; clear BK299; clear BK300; clear HB; have BK298 := n0_; have BK299 := n1_; have BK300 := n2_; have HB := n3_; clear n0_ n1_ n2_ n3_; (try clear hb); (try clear hb2); (try clear hk); (try clear hi); have hcz63_0 : w62.cell? ⟨gb300, 0, none⟩ = some (.int .i64 0) := (bC BK300.out 0).trans rfl; have hcz63_1 : w62.cell? ⟨gb300, 1, none⟩ = some (.int .i64 0) := (bC BK300.out 1).trans rfl; have hcz63_2 : w62.cell? ⟨gb300, 2, none⟩ = some (.string (⟨#[]⟩ : ByteArray)) := (bC BK300.out 2).trans rfl; have hfz63_0 := bF BK300.out 0; have hfz63_1 := bF BK300.out 1; have hfz63_2 := bF BK300.out 2))
    repeat (go_quiet (first | (go_at_call 72; (with_reducible refine (impl_truth.calls (a1_0 == a2_0 && (a1_1 == a2_1 && (a1_2.toList == a2_2.toList))) t310 t311 t312 _ A56.out).mono ?_); rintro e w62 ⟨rfl, hb⟩; have n0_ := mk0 (bB (g := gb298) (o := .cells #[.int .i64 a1_0, .int .i64 a1_1, .string a1_2] 34 (0, 0)) (by (with_reducible repeat (first | apply bN | apply bD | apply bA)); exact BK298.out) hb); have n1_ := mk0 (bB (g := gb299) (o := .cells #[.int .i64 a2_0, .int .i64 a2_1, .string a2_2] 34 (0, 0)) (by (with_reducible repeat (first | apply bN | apply bD | apply bA)); exact BK299.out) hb); have n2_ := mk0 (bB (g := gb300) (o := .cells #[.int .i64 0, .int .i64 0, .string (⟨#[]⟩ : ByteArray)] 34 (0, 0)) (by (with_reducible repeat (first | apply bN | apply bD | apply bA)); exact BK300.out) hb); have n3_ := mk0 (below_step (by repeat (first | (with_reducible first | exact HB.out | apply wA | apply wN | apply wD | refine wS ?_ GE298.out | refine wS ?_ GE299.out | refine wS ?_ GE300.out) | exact HB.out)) hb); clear BK298; clear BK299; clear BK300; clear HB; have BK298 := n0_; have BK299 := n1_; have BK300 := n2_; have HB := n3_; clear n0_ n1_ n2_ n3_; (try clear hb); (try clear hb2); (try clear hk); (try clear hi); have hcz63_0 : w62.cell? ⟨gb300, 0, none⟩ = some (.int .i64 0) := (bC BK300.out 0).trans rfl; have hcz63_1 : w62.cell? ⟨gb300, 1, none⟩ = some (.int .i64 0) := (bC BK300.out 1).trans rfl; have hcz63_2 : w62.cell? ⟨gb300, 2, none⟩ = some (.string (⟨#[]⟩ : ByteArray)) := (bC BK300.out 2).trans rfl; have hfz63_0 := bF BK300.out 0; have hfz63_1 := bF BK300.out 1; have hfz63_2 := bF BK300.out 2)); try go_wp2_with (first | (go_at_call 72; (with_reducible refine (impl_truth.calls (a1_0 == a2_0 && (a1_1 == a2_1 && (a1_2.toList == a2_2.toList))) t310 t311 t312 _ A56.out).mono ?_); rintro e w62 ⟨rfl, hb⟩; have n0_ := mk0 (bB (g := gb298) (o := .cells #[.int .i64 a1_0, .int .i64 a1_1, .string a1_2] 34 (0, 0)) (by (with_reducible repeat (first | apply bN | apply bD | apply bA)); exact BK298.out) hb); have n1_ := mk0 (bB (g := gb299) (o := .cells #[.int .i64 a2_0, .int .i64 a2_1, .string a2_2] 34 (0, 0)) (by (with_reducible repeat (first | apply bN | apply bD | apply bA)); exact BK299.out) hb); have n2_ := mk0 (bB (g := gb300) (o := .cells #[.int .i64 0, .int .i64 0, .string (⟨#[]⟩ : ByteArray)] 34 (0, 0)) (by (with_reducible repeat (first | apply bN | apply bD | apply bA)); exact BK300.out) hb); have n3_ := mk0 (below_step (by repeat (first | (with_reducible first | exact HB.out | apply wA | apply wN | apply wD | refine wS ?_ GE298.out | refine wS ?_ GE299.out | refine wS ?_ GE300.out) | exact HB.out)) hb); clear BK298; clear BK299; clear BK300; clear HB; have BK298 := n0_; have BK299 := n1_; have BK300 := n2_; have HB := n3_; clear n0_ n1_ n2_ n3_; (try clear hb); (try clear hb2); (try clear hk); (try clear hi); have hcz63_0 : w62.cell? ⟨gb300, 0, none⟩ = some (.int .i64 0) := (bC BK300.out 0).trans rfl; have hcz63_1 : w62.cell? ⟨gb300, 1, none⟩ = some (.int .i64 0) := (bC BK300.out 1).trans rfl; have hcz63_2 : w62.cell? ⟨gb300, 2, none⟩ = some (.string (⟨#[]⟩ : ByteArray)) := (bC BK300.out 2).trans rfl; have hfz63_0 := bF BK300.out 0; have hfz63_1 := bF BK300.out 1; have hfz63_2 := bF BK300.out 2)))
    refine bodyPost_ret (results_ct rfl _ _ gb300 34 #[.int .i64 t310, .int .i64 t311, .string t312] (0, 0) _ rfl (by (with_reducible repeat (first | apply bN | apply bD | apply bA)); refine blk_put (cs := #[.int .i64 t310, .int .i64 t311, .string (⟨#[]⟩ : ByteArray)]) ?_ 2 _ rfl; (with_reducible repeat (first | apply bN | apply bD | apply bA)); refine blk_put (cs := #[.int .i64 t310, .int .i64 0, .string (⟨#[]⟩ : ByteArray)]) ?_ 1 _ rfl; (with_reducible repeat (first | apply bN | apply bD | apply bA)); refine blk_put (cs := #[.int .i64 0, .int .i64 0, .string (⟨#[]⟩ : ByteArray)]) ?_ 0 _ rfl; (with_reducible repeat (first | apply bN | apply bD | apply bA)); exact BK300.out) Try.underlying34 rfl (by kernel_rfl)) rfl ?_
    exact ⟨by first | rfl | (simp [errW_none, errW_some] <;> rfl) | (simp [*, errW_none, errW_some] <;> rfl), by repeat (first | (with_reducible first | exact HB.out | apply wA | apply wN | apply wD | refine wS ?_ GE298.out | refine wS ?_ GE299.out | refine wS ?_ GE300.out) | exact HB.out)⟩
  rw [if_neg c55] at H
  have c55b0 : (a0 == 3) = false := beq_eq_false_iff_ne.mpr c55
  have c55b1 : (a0 != 3) = true := bne_iff_ne.mpr c55
  by_cases c64 : a0 = 4
  · rw [if_pos c64] at H
    have c64b0 : (a0 == 4) = true := beq_iff_eq.mpr c64
    have c64b1 : (a0 != 4) = false := bne_eq_false_iff_eq.mpr c64
    clear c64
    replace H := Option.bind_eq_some_iff.mp H
    obtain ⟨⟨t313, t314, t315⟩, A650, H⟩ := H
    replace H : (some (t313, t314, t315, (⟨#[]⟩ : ByteArray))) = some (r1, r2, r3, r4) := H
    have A65 := mk0 A650
    clear A650
    simp only [Option.some.injEq, Prod.mk.injEq] at H
    obtain ⟨rfl, rfl, rfl, rfl⟩ := H
    have hnb66 := NB298_299.out
    have hnc66 := NB299_298.out
    have hnb67 := NB298_300.out
    have hnc67 := NB300_298.out
    have hcz68_0 : wc.cell? ⟨gb298, 0, none⟩ = some (.int .i64 a1_0) := (bC BK298.out 0).trans rfl
    have hcz68_1 : wc.cell? ⟨gb298, 1, none⟩ = some (.int .i64 a1_1) := (bC BK298.out 1).trans rfl
    have hcz68_2 : wc.cell? ⟨gb298, 2, none⟩ = some (.string a1_2) := (bC BK298.out 2).trans rfl
    have hfz68_0 := bF BK298.out 0
    have hfz68_1 := bF BK298.out 1
    have hfz68_2 := bF BK298.out 2
    have hnb69 := NB299_300.out
    have hnc69 := NB300_299.out
    have hcz70_0 : wc.cell? ⟨gb299, 0, none⟩ = some (.int .i64 a2_0) := (bC BK299.out 0).trans rfl
    have hcz70_1 : wc.cell? ⟨gb299, 1, none⟩ = some (.int .i64 a2_1) := (bC BK299.out 1).trans rfl
    have hcz70_2 : wc.cell? ⟨gb299, 2, none⟩ = some (.string a2_2) := (bC BK299.out 2).trans rfl
    have hfz70_0 := bF BK299.out 0
    have hfz70_1 := bF BK299.out 1
    have hfz70_2 := bF BK299.out 2
    go_wp2_with (first | (go_at_call 72; (with_reducible refine (impl_truth.calls (!(a1_0 == a2_0) || (!(a1_1 == a2_1) || (!(a1_2.toList == a2_2.toList)))) t313 t314 t315 _ A65.out).mono ?_); rintro e w71 ⟨rfl, hb⟩; have n0_ := mk0 (bB (g := gb298) (o := .cells #[.int .i64 a1_0, .int .i64 a1_1, .string a1_2] 34 (0, 0)) (by (with_reducible repeat (first | apply bN | apply bD | apply bA)); exact BK298.out) hb); have n1_ := mk0 (bB (g := gb299) (o := .cells #[.int .i64 a2_0, .int .i64 a2_1, .string a2_2] 34 (0, 0)) (by (with_reducible repeat (first | apply bN | apply bD | apply bA)); exact BK299.out) hb); have n2_ := mk0 (bB (g := gb300) (o := .cells #[.int .i64 0, .int .i64 0, .string (⟨#[]⟩ : ByteArray)] 34 (0, 0)) (by (with_reducible repeat (first | apply bN | apply bD | apply bA)); exact BK300.out) hb); have n3_ := mk0 (below_step (by repeat (first | (with_reducible first | exact HB.out | apply wA | apply wN | apply wD | refine wS ?_ GE298.out | refine wS ?_ GE299.out | refine wS ?_ GE300.out) | exact HB.out)) hb); clear BK298; clear BK299; clear BK300; clear HB; have BK298 := n0_; have BK299 := n1_; have BK300 := n2_; have HB := n3_; clear n0_ n1_ n2_ n3_; (try clear hb); (try clear hb2); (try clear hk); (try clear hi); have hcz72_0 : w71.cell? ⟨gb300, 0, none⟩ = some (.int .i64 0) := (bC BK300.out 0).trans rfl; have hcz72_1 : w71.cell? ⟨gb300, 1, none⟩ = some (.int .i64 0) := (bC BK300.out 1).trans rfl; have hcz72_2 : w71.cell? ⟨gb300, 2, none⟩ = some (.string (⟨#[]⟩ : ByteArray)) := (bC BK300.out 2).trans rfl; have hfz72_0 := bF BK300.out 0; have hfz72_1 := bF BK300.out 1; have hfz72_2 := bF BK300.out 2))
    repeat (go_quiet (first | (go_at_call 72; (with_reducible refine (impl_truth.calls (!(a1_0 == a2_0) || (!(a1_1 == a2_1) || (!(a1_2.toList == a2_2.toList)))) t313 t314 t315 _ A65.out).mono ?_); rintro e w71 ⟨rfl, hb⟩; have n0_ := mk0 (bB (g := gb298) (o := .cells #[.int .i64 a1_0, .int .i64 a1_1, .string a1_2] 34 (0, 0)) (by (with_reducible repeat (first | apply bN | apply bD | apply bA)); exact BK298.out) hb); have n1_ := mk0 (bB (g := gb299) (o := .cells #[.int .i64 a2_0, .int .i64 a2_1, .string a2_2] 34 (0, 0)) (by (with_reducible repeat (first | apply bN | apply bD | apply bA)); exact BK299.out) hb); have n2_ := mk0 (bB (g := gb300) (o := .cells #[.int .i64 0, .int .i64 0, .string (⟨#[]⟩ : ByteArray)] 34 (0, 0)) (by (with_reducible repeat (first | apply bN | apply bD | apply bA)); exact BK300.out) hb); have n3_ := mk0 (below_step (by repeat (first | (with_reducible first | exact HB.out | apply wA | apply wN | apply wD | refine wS ?_ GE298.out | refine wS ?_ GE299.out | refine wS ?_ GE300.out) | exact HB.out)) hb); clear BK298; clear BK299; clear BK300; clear HB; have BK298 := n0_; have BK299 := n1_; have BK300 := n2_; have HB := n3_; clear n0_ n1_ n2_ n3_; (try clear hb); (try clear hb2); (try clear hk); (try clear hi); have hcz72_0 : w71.cell? ⟨gb300, 0, none⟩ = some (.int .i64 0) := (bC BK300.out 0).trans rfl; have hcz72_1 : w71.cell? ⟨gb300, 1, none⟩ = some (.int .i64 0) := (bC BK300.out 1).trans rfl; have hcz72_2 : w71.cell? ⟨gb300, 2, none⟩ = some (.string (⟨#[]⟩ : ByteArray)) := (bC BK300.out 2).trans rfl; have hfz72_0 := bF BK300.out 0; have hfz72_1 := bF BK300.out 1; have hfz72_2 := bF BK300.out 2)); try go_wp2_with (first | (go_at_call 72; (with_reducible refine (impl_truth.calls (!(a1_0 == a2_0) || (!(a1_1 == a2_1) || (!(a1_2.toList == a2_2.toList)))) t313 t314 t315 _ A65.out).mono ?_); rintro e w71 ⟨rfl, hb⟩; have n0_ := mk0 (bB (g := gb298) (o := .cells #[.int .i64 a1_0, .int .i64 a1_1, .string a1_2] 34 (0, 0)) (by (with_reducible repeat (first | apply bN | apply bD | apply bA)); exact BK298.out) hb); have n1_ := mk0 (bB (g := gb299) (o := .cells #[.int .i64 a2_0, .int .i64 a2_1, .string a2_2] 34 (0, 0)) (by (with_reducible repeat (first | apply bN | apply bD | apply bA)); exact BK299.out) hb); have n2_ := mk0 (bB (g := gb300) (o := .cells #[.int .i64 0, .int .i64 0, .string (⟨#[]⟩ : ByteArray)] 34 (0, 0)) (by (with_reducible repeat (first | apply bN | apply bD | apply bA)); exact BK300.out) hb); have n3_ := mk0 (below_step (by repeat (first | (with_reducible first | exact HB.out | apply wA | apply wN | apply wD | refine wS ?_ GE298.out | refine wS ?_ GE299.out | refine wS ?_ GE300.out) | exact HB.out)) hb); clear BK298; clear BK299; clear BK300; clear HB; have BK298 := n0_; have BK299 := n1_; have BK300 := n2_; have HB := n3_; clear n0_ n1_ n2_ n3_; (try clear hb); (try clear hb2); (try clear hk); (try clear hi); have hcz72_0 : w71.cell? ⟨gb300, 0, none⟩ = some (.int .i64 0) := (bC BK300.out 0).trans rfl; have hcz72_1 : w71.cell? ⟨gb300, 1, none⟩ = some (.int .i64 0) := (bC BK300.out 1).trans rfl; have hcz72_2 : w71.cell? ⟨gb300, 2, none⟩ = some (.string (⟨#[]⟩ : ByteArray)) := (bC BK300.out 2).trans rfl; have hfz72_0 := bF BK300.out 0; have hfz72_1 := bF BK300.out 1; have hfz72_2 := bF BK300.out 2)))
    refine bodyPost_ret (results_ct rfl _ _ gb300 34 #[.int .i64 t313, .int .i64 t314, .string t315] (0, 0) _ rfl (by (with_reducible repeat (first | apply bN | apply bD | apply bA)); refine blk_put (cs := #[.int .i64 t313, .int .i64 t314, .string (⟨#[]⟩ : ByteArray)]) ?_ 2 _ rfl; (with_reducible repeat (first | apply bN | apply bD | apply bA)); refine blk_put (cs := #[.int .i64 t313, .int .i64 0, .string (⟨#[]⟩ : ByteArray)]) ?_ 1 _ rfl; (with_reducible repeat (first | apply bN | apply bD | apply bA)); refine blk_put (cs := #[.int .i64 0, .int .i64 0, .string (⟨#[]⟩ : ByteArray)]) ?_ 0 _ rfl; (with_reducible repeat (first | apply bN | apply bD | apply bA)); exact BK300.out) Try.underlying34 rfl (by kernel_rfl)) rfl ?_
    exact ⟨by first | rfl | (simp [errW_none, errW_some] <;> rfl) | (simp [*, errW_none, errW_some] <;> rfl), by repeat (first | (with_reducible first | exact HB.out | apply wA | apply wN | apply wD | refine wS ?_ GE298.out | refine wS ?_ GE299.out | refine wS ?_ GE300.out) | exact HB.out)⟩
  rw [if_neg c64] at H
  have c64b0 : (a0 == 4) = false := beq_eq_false_iff_ne.mpr c64
  have c64b1 : (a0 != 4) = true := bne_iff_ne.mpr c64
  by_cases c73 : a0 = 5
  · rw [if_pos c73] at H
    have c73b0 : (a0 == 5) = true := beq_iff_eq.mpr c73
    have c73b1 : (a0 != 5) = false := bne_eq_false_iff_eq.mpr c73
    clear c73
    replace H := Option.bind_eq_some_iff.mp H
    obtain ⟨t316, A740, H⟩ := H
    replace H : ((impl_truth.f (decide (t316 < 0))).bind fun bt317 => (some (bt317.1, bt317.2.1, bt317.2.2, (⟨#[]⟩ : ByteArray)))) = some (r1, r2, r3, r4) := H
    have A74 := mk0 A740
    clear A740
    replace H := Option.bind_eq_some_iff.mp H
    obtain ⟨⟨t317, t318, t319⟩, A750, H⟩ := H
    replace H : (some (t317, t318, t319, (⟨#[]⟩ : ByteArray))) = some (r1, r2, r3, r4) := H
    have A75 := mk0 A750
    clear A750
    simp only [Option.some.injEq, Prod.mk.injEq] at H
    obtain ⟨rfl, rfl, rfl, rfl⟩ := H
    have hnb76 := NB298_299.out
    have hnc76 := NB299_298.out
    have hnb77 := NB298_300.out
    have hnc77 := NB300_298.out
    have hcz78_0 : wc.cell? ⟨gb298, 0, none⟩ = some (.int .i64 a1_0) := (bC BK298.out 0).trans rfl
    have hcz78_1 : wc.cell? ⟨gb298, 1, none⟩ = some (.int .i64 a1_1) := (bC BK298.out 1).trans rfl
    have hcz78_2 : wc.cell? ⟨gb298, 2, none⟩ = some (.string a1_2) := (bC BK298.out 2).trans rfl
    have hfz78_0 := bF BK298.out 0
    have hfz78_1 := bF BK298.out 1
    have hfz78_2 := bF BK298.out 2
    have hnb79 := NB299_300.out
    have hnc79 := NB300_299.out
    have hcz80_0 : wc.cell? ⟨gb299, 0, none⟩ = some (.int .i64 a2_0) := (bC BK299.out 0).trans rfl
    have hcz80_1 : wc.cell? ⟨gb299, 1, none⟩ = some (.int .i64 a2_1) := (bC BK299.out 1).trans rfl
    have hcz80_2 : wc.cell? ⟨gb299, 2, none⟩ = some (.string a2_2) := (bC BK299.out 2).trans rfl
    have hfz80_0 := bF BK299.out 0
    have hfz80_1 := bF BK299.out 1
    have hfz80_2 := bF BK299.out 2
    go_wp2_with (first | (go_at_call 93; (with_reducible refine (impl_order.calls kj3 a1_0 a1_1 a1_2 a2_0 a2_1 a2_2 t316 _ A74.out).mono ?_); rintro e w81 ⟨rfl, hb⟩; have n0_ := mk0 (bB (g := gb298) (o := .cells #[.int .i64 a1_0, .int .i64 a1_1, .string a1_2] 34 (0, 0)) (by (with_reducible repeat (first | apply bN | apply bD | apply bA)); exact BK298.out) hb); have n1_ := mk0 (bB (g := gb299) (o := .cells #[.int .i64 a2_0, .int .i64 a2_1, .string a2_2] 34 (0, 0)) (by (with_reducible repeat (first | apply bN | apply bD | apply bA)); exact BK299.out) hb); have n2_ := mk0 (bB (g := gb300) (o := .cells #[.int .i64 0, .int .i64 0, .string (⟨#[]⟩ : ByteArray)] 34 (0, 0)) (by (with_reducible repeat (first | apply bN | apply bD | apply bA)); exact BK300.out) hb); have n3_ := mk0 (below_step (by repeat (first | (with_reducible first | exact HB.out | apply wA | apply wN | apply wD | refine wS ?_ GE298.out | refine wS ?_ GE299.out | refine wS ?_ GE300.out) | exact HB.out)) hb); clear BK298; clear BK299; clear BK300; clear HB; have BK298 := n0_; have BK299 := n1_; have BK300 := n2_; have HB := n3_; clear n0_ n1_ n2_ n3_; (try clear hb); (try clear hb2); (try clear hk); (try clear hi)) | (go_at_call 72; (with_reducible refine (impl_truth.calls (decide (t316 < 0)) t317 t318 t319 _ A75.out).mono ?_); rintro e w82 ⟨rfl, hb⟩; have n0_ := mk0 (bB (g := gb298) (o := .cells #[.int .i64 a1_0, .int .i64 a1_1, .string a1_2] 34 (0, 0)) (by (with_reducible repeat (first | apply bN | apply bD | apply bA)); exact BK298.out) hb); have n1_ := mk0 (bB (g := gb299) (o := .cells #[.int .i64 a2_0, .int .i64 a2_1, .string a2_2] 34 (0, 0)) (by (with_reducible repeat (first | apply bN | apply bD | apply bA)); exact BK299.out) hb); have n2_ := mk0 (bB (g := gb300) (o := .cells #[.int .i64 0, .int .i64 0, .string (⟨#[]⟩ : ByteArray)] 34 (0, 0)) (by (with_reducible repeat (first | apply bN | apply bD | apply bA)); exact BK300.out) hb); have n3_ := mk0 (below_step (by repeat (first | (with_reducible first | exact HB.out | apply wA | apply wN | apply wD | refine wS ?_ GE298.out | refine wS ?_ GE299.out | refine wS ?_ GE300.out) | exact HB.out)) hb); clear BK298; clear BK299; clear BK300; clear HB; have BK298 := n0_; have BK299 := n1_; have BK300 := n2_; have HB := n3_; clear n0_ n1_ n2_ n3_; (try clear hb); (try clear hb2); (try clear hk); (try clear hi); have hcz83_0 : w82.cell? ⟨gb300, 0, none⟩ = some (.int .i64 0) := (bC BK300.out 0).trans rfl; have hcz83_1 : w82.cell? ⟨gb300, 1, none⟩ = some (.int .i64 0) := (bC BK300.out 1).trans rfl; have hcz83_2 : w82.cell? ⟨gb300, 2, none⟩ = some (.string (⟨#[]⟩ : ByteArray)) := (bC BK300.out 2).trans rfl; have hfz83_0 := bF BK300.out 0; have hfz83_1 := bF BK300.out 1; have hfz83_2 := bF BK300.out 2))
    repeat (go_quiet (first | (go_at_call 93; (with_reducible refine (impl_order.calls kj3 a1_0 a1_1 a1_2 a2_0 a2_1 a2_2 t316 _ A74.out).mono ?_); rintro e w81 ⟨rfl, hb⟩; have n0_ := mk0 (bB (g := gb298) (o := .cells #[.int .i64 a1_0, .int .i64 a1_1, .string a1_2] 34 (0, 0)) (by (with_reducible repeat (first | apply bN | apply bD | apply bA)); exact BK298.out) hb); have n1_ := mk0 (bB (g := gb299) (o := .cells #[.int .i64 a2_0, .int .i64 a2_1, .string a2_2] 34 (0, 0)) (by (with_reducible repeat (first | apply bN | apply bD | apply bA)); exact BK299.out) hb); have n2_ := mk0 (bB (g := gb300) (o := .cells #[.int .i64 0, .int .i64 0, .string (⟨#[]⟩ : ByteArray)] 34 (0, 0)) (by (with_reducible repeat (first | apply bN | apply bD | apply bA)); exact BK300.out) hb); have n3_ := mk0 (below_step (by repeat (first | (with_reducible first | exact HB.out | apply wA | apply wN | apply wD | refine wS ?_ GE298.out | refine wS ?_ GE299.out | refine wS ?_ GE300.out) | exact HB.out)) hb); clear BK298; clear BK299; clear BK300; clear HB; have BK298 := n0_; have BK299 := n1_; have BK300 := n2_; have HB := n3_; clear n0_ n1_ n2_ n3_; (try clear hb); (try clear hb2); (try clear hk); (try clear hi)) | (go_at_call 72; (with_reducible refine (impl_truth.calls (decide (t316 < 0)) t317 t318 t319 _ A75.out).mono ?_); rintro e w82 ⟨rfl, hb⟩; have n0_ := mk0 (bB (g := gb298) (o := .cells #[.int .i64 a1_0, .int .i64 a1_1, .string a1_2] 34 (0, 0)) (by (with_reducible repeat (first | apply bN | apply bD | apply bA)); exact BK298.out) hb); have n1_ := mk0 (bB (g := gb299) (o := .cells #[.int .i64 a2_0, .int .i64 a2_1, .string a2_2] 34 (0, 0)) (by (with_reducible repeat (first | apply bN | apply bD | apply bA)); exact BK299.out) hb); have n2_ := mk0 (bB (g := gb300) (o := .cells #[.int .i64 0, .int .i64 0, .string (⟨#[]⟩ : ByteArray)] 34 (0, 0)) (by (with_reducible repeat (first | apply bN | apply bD | apply bA)); exact BK300.out) hb); have n3_ := mk0 (below_step (by repeat (first | (with_reducible first | exact HB.out | apply wA | apply wN | apply wD | refine wS ?_ GE298.out | refine wS ?_ GE299.out | refine wS ?_ GE300.out) | exact HB.out)) hb); clear BK298; clear BK299; clear BK300; clear HB; have BK298 := n0_; have BK299 := n1_; have BK300 := n2_; have HB := n3_; clear n0_ n1_ n2_ n3_; (try clear hb); (try clear hb2); (try clear hk); (try clear hi); have hcz83_0 : w82.cell? ⟨gb300, 0, none⟩ = some (.int .i64 0) := (bC BK300.out 0).trans rfl; have hcz83_1 : w82.cell? ⟨gb300, 1, none⟩ = some (.int .i64 0) := (bC BK300.out 1).trans rfl; have hcz83_2 : w82.cell? ⟨gb300, 2, none⟩ = some (.string (⟨#[]⟩ : ByteArray)) := (bC BK300.out 2).trans rfl; have hfz83_0 := bF BK300.out 0; have hfz83_1 := bF BK300.out 1; have hfz83_2 := bF BK300.out 2)); try go_wp2_with (first | (go_at_call 93; (with_reducible refine (impl_order.calls kj3 a1_0 a1_1 a1_2 a2_0 a2_1 a2_2 t316 _ A74.out).mono ?_); rintro e w81 ⟨rfl, hb⟩; have n0_ := mk0 (bB (g := gb298) (o := .cells #[.int .i64 a1_0, .int .i64 a1_1, .string a1_2] 34 (0, 0)) (by (with_reducible repeat (first | apply bN | apply bD | apply bA)); exact BK298.out) hb); have n1_ := mk0 (bB (g := gb299) (o := .cells #[.int .i64 a2_0, .int .i64 a2_1, .string a2_2] 34 (0, 0)) (by (with_reducible repeat (first | apply bN | apply bD | apply bA)); exact BK299.out) hb); have n2_ := mk0 (bB (g := gb300) (o := .cells #[.int .i64 0, .int .i64 0, .string (⟨#[]⟩ : ByteArray)] 34 (0, 0)) (by (with_reducible repeat (first | apply bN | apply bD | apply bA)); exact BK300.out) hb); have n3_ := mk0 (below_step (by repeat (first | (with_reducible first | exact HB.out | apply wA | apply wN | apply wD | refine wS ?_ GE298.out | refine wS ?_ GE299.out | refine wS ?_ GE300.out) | exact HB.out)) hb); clear BK298; clear BK299; clear BK300; clear HB; have BK298 := n0_; have BK299 := n1_; have BK300 := n2_; have HB := n3_; clear n0_ n1_ n2_ n3_; (try clear hb); (try clear hb2); (try clear hk); (try clear hi)) | (go_at_call 72; (with_reducible refine (impl_truth.calls (decide (t316 < 0)) t317 t318 t319 _ A75.out).mono ?_); rintro e w82 ⟨rfl, hb⟩; have n0_ := mk0 (bB (g := gb298) (o := .cells #[.int .i64 a1_0, .int .i64 a1_1, .string a1_2] 34 (0, 0)) (by (with_reducible repeat (first | apply bN | apply bD | apply bA)); exact BK298.out) hb); have n1_ := mk0 (bB (g := gb299) (o := .cells #[.int .i64 a2_0, .int .i64 a2_1, .string a2_2] 34 (0, 0)) (by (with_reducible repeat (first | apply bN | apply bD | apply bA)); exact BK299.out) hb); have n2_ := mk0 (bB (g := gb300) (o := .cells #[.int .i64 0, .int .i64 0, .string (⟨#[]⟩ : ByteArray)] 34 (0, 0)) (by (with_reducible repeat (first | apply bN | apply bD | apply bA)); exact BK300.out) hb); have n3_ := mk0 (below_step (by repeat (first | (with_reducible first | exact HB.out | apply wA | apply wN | apply wD | refine wS ?_ GE298.out | refine wS ?_ GE299.out | refine wS ?_ GE300.out) | exact HB.out)) hb); clear BK298; clear BK299; clear BK300; clear HB; have BK298 := n0_; have BK299 := n1_; have BK300 := n2_; have HB := n3_; clear n0_ n1_ n2_ n3_; (try clear hb); (try clear hb2); (try clear hk); (try clear hi); have hcz83_0 : w82.cell? ⟨gb300, 0, none⟩ = some (.int .i64 0) := (bC BK300.out 0).trans rfl; have hcz83_1 : w82.cell? ⟨gb300, 1, none⟩ = some (.int .i64 0) := (bC BK300.out 1).trans rfl; have hcz83_2 : w82.cell? ⟨gb300, 2, none⟩ = some (.string (⟨#[]⟩ : ByteArray)) := (bC BK300.out 2).trans rfl; have hfz83_0 := bF BK300.out 0; have hfz83_1 := bF BK300.out 1; have hfz83_2 := bF BK300.out 2)))
    refine bodyPost_ret (results_ct rfl _ _ gb300 34 #[.int .i64 t317, .int .i64 t318, .string t319] (0, 0) _ rfl (by (with_reducible repeat (first | apply bN | apply bD | apply bA)); refine blk_put (cs := #[.int .i64 t317, .int .i64 t318, .string (⟨#[]⟩ : ByteArray)]) ?_ 2 _ rfl; (with_reducible repeat (first | apply bN | apply bD | apply bA)); refine blk_put (cs := #[.int .i64 t317, .int .i64 0, .string (⟨#[]⟩ : ByteArray)]) ?_ 1 _ rfl; (with_reducible repeat (first | apply bN | apply bD | apply bA)); refine blk_put (cs := #[.int .i64 0, .int .i64 0, .string (⟨#[]⟩ : ByteArray)]) ?_ 0 _ rfl; (with_reducible repeat (first | apply bN | apply bD | apply bA)); exact BK300.out) Try.underlying34 rfl (by kernel_rfl)) rfl ?_
    exact ⟨by first | rfl | (simp [errW_none, errW_some] <;> rfl) | (simp [*, errW_none, errW_some] <;> rfl), by repeat (first | (with_reducible first | exact HB.out | apply wA | apply wN | apply wD | refine wS ?_ GE298.out | refine wS ?_ GE299.out | refine wS ?_ GE300.out) | exact HB.out)⟩
  rw [if_neg c73] at H
  have c73b0 : (a0 == 5) = false := beq_eq_false_iff_ne.mpr c73
  have c73b1 : (a0 != 5) = true := bne_iff_ne.mpr c73
  by_cases c84 : a0 = 6
  · rw [if_pos c84] at H
    have c84b0 : (a0 == 6) = true := beq_iff_eq.mpr c84
    have c84b1 : (a0 != 6) = false := bne_eq_false_iff_eq.mpr c84
    clear c84
    replace H := Option.bind_eq_some_iff.mp H
    obtain ⟨t320, A850, H⟩ := H
    replace H : ((impl_truth.f (decide (t320 ≤ 0))).bind fun bt321 => (some (bt321.1, bt321.2.1, bt321.2.2, (⟨#[]⟩ : ByteArray)))) = some (r1, r2, r3, r4) := H
    have A85 := mk0 A850
    clear A850
    replace H := Option.bind_eq_some_iff.mp H
    obtain ⟨⟨t321, t322, t323⟩, A860, H⟩ := H
    replace H : (some (t321, t322, t323, (⟨#[]⟩ : ByteArray))) = some (r1, r2, r3, r4) := H
    have A86 := mk0 A860
    clear A860
    simp only [Option.some.injEq, Prod.mk.injEq] at H
    obtain ⟨rfl, rfl, rfl, rfl⟩ := H
    have hnb87 := NB298_299.out
    have hnc87 := NB299_298.out
    have hnb88 := NB298_300.out
    have hnc88 := NB300_298.out
    have hcz89_0 : wc.cell? ⟨gb298, 0, none⟩ = some (.int .i64 a1_0) := (bC BK298.out 0).trans rfl
    have hcz89_1 : wc.cell? ⟨gb298, 1, none⟩ = some (.int .i64 a1_1) := (bC BK298.out 1).trans rfl
    have hcz89_2 : wc.cell? ⟨gb298, 2, none⟩ = some (.string a1_2) := (bC BK298.out 2).trans rfl
    have hfz89_0 := bF BK298.out 0
    have hfz89_1 := bF BK298.out 1
    have hfz89_2 := bF BK298.out 2
    have hnb90 := NB299_300.out
    have hnc90 := NB300_299.out
    have hcz91_0 : wc.cell? ⟨gb299, 0, none⟩ = some (.int .i64 a2_0) := (bC BK299.out 0).trans rfl
    have hcz91_1 : wc.cell? ⟨gb299, 1, none⟩ = some (.int .i64 a2_1) := (bC BK299.out 1).trans rfl
    have hcz91_2 : wc.cell? ⟨gb299, 2, none⟩ = some (.string a2_2) := (bC BK299.out 2).trans rfl
    have hfz91_0 := bF BK299.out 0
    have hfz91_1 := bF BK299.out 1
    have hfz91_2 := bF BK299.out 2
    go_wp2_with (first | (go_at_call 93; (with_reducible refine (impl_order.calls kj3 a1_0 a1_1 a1_2 a2_0 a2_1 a2_2 t320 _ A85.out).mono ?_); rintro e w92 ⟨rfl, hb⟩; have n0_ := mk0 (bB (g := gb298) (o := .cells #[.int .i64 a1_0, .int .i64 a1_1, .string a1_2] 34 (0, 0)) (by (with_reducible repeat (first | apply bN | apply bD | apply bA)); exact BK298.out) hb); have n1_ := mk0 (bB (g := gb299) (o := .cells #[.int .i64 a2_0, .int .i64 a2_1, .string a2_2] 34 (0, 0)) (by (with_reducible repeat (first | apply bN | apply bD | apply bA)); exact BK299.out) hb); have n2_ := mk0 (bB (g := gb300) (o := .cells #[.int .i64 0, .int .i64 0, .string (⟨#[]⟩ : ByteArray)] 34 (0, 0)) (by (with_reducible repeat (first | apply bN | apply bD | apply bA)); exact BK300.out) hb); have n3_ := mk0 (below_step (by repeat (first | (with_reducible first | exact HB.out | apply wA | apply wN | apply wD | refine wS ?_ GE298.out | refine wS ?_ GE299.out | refine wS ?_ GE300.out) | exact HB.out)) hb); clear BK298; clear BK299; clear BK300; clear HB; have BK298 := n0_; have BK299 := n1_; have BK300 := n2_; have HB := n3_; clear n0_ n1_ n2_ n3_; (try clear hb); (try clear hb2); (try clear hk); (try clear hi)) | (go_at_call 72; (with_reducible refine (impl_truth.calls (decide (t320 ≤ 0)) t321 t322 t323 _ A86.out).mono ?_); rintro e w93 ⟨rfl, hb⟩; have n0_ := mk0 (bB (g := gb298) (o := .cells #[.int .i64 a1_0, .int .i64 a1_1, .string a1_2] 34 (0, 0)) (by (with_reducible repeat (first | apply bN | apply bD | apply bA)); exact BK298.out) hb); have n1_ := mk0 (bB (g := gb299) (o := .cells #[.int .i64 a2_0, .int .i64 a2_1, .string a2_2] 34 (0, 0)) (by (with_reducible repeat (first | apply bN | apply bD | apply bA)); exact BK299.out) hb); have n2_ := mk0 (bB (g := gb300) (o := .cells #[.int .i64 0, .int .i64 0, .string (⟨#[]⟩ : ByteArray)] 34 (0, 0)) (by (with_reducible repeat (first | apply bN | apply bD | apply bA)); exact BK300.out) hb); have n3_ := mk0 (below_step (by repeat (first | (with_reducible first | exact HB.out | apply wA | apply wN | apply wD | refine wS ?_ GE298.out | refine wS ?_ GE299.out | refine wS ?_ GE300.out) | exact HB.out)) hb); clear BK298; clear BK299; clear BK300; clear HB; have BK298 := n0_; have BK299 := n1_; have BK300 := n2_; have HB := n3_; clear n0_ n1_ n2_ n3_; (try clear hb); (try clear hb2); (try clear hk); (try clear hi); have hcz94_0 : w93.cell? ⟨gb300, 0, none⟩ = some (.int .i64 0) := (bC BK300.out 0).trans rfl; have hcz94_1 : w93.cell? ⟨gb300, 1, none⟩ = some (.int .i64 0) := (bC BK300.out 1).trans rfl; have hcz94_2 : w93.cell? ⟨gb300, 2, none⟩ = some (.string (⟨#[]⟩ : ByteArray)) := (bC BK300.out 2).trans rfl; have hfz94_0 := bF BK300.out 0; have hfz94_1 := bF BK300.out 1; have hfz94_2 := bF BK300.out 2))
    repeat (go_quiet (first | (go_at_call 93; (with_reducible refine (impl_order.calls kj3 a1_0 a1_1 a1_2 a2_0 a2_1 a2_2 t320 _ A85.out).mono ?_); rintro e w92 ⟨rfl, hb⟩; have n0_ := mk0 (bB (g := gb298) (o := .cells #[.int .i64 a1_0, .int .i64 a1_1, .string a1_2] 34 (0, 0)) (by (with_reducible repeat (first | apply bN | apply bD | apply bA)); exact BK298.out) hb); have n1_ := mk0 (bB (g := gb299) (o := .cells #[.int .i64 a2_0, .int .i64 a2_1, .string a2_2] 34 (0, 0)) (by (with_reducible repeat (first | apply bN | apply bD | apply bA)); exact BK299.out) hb); have n2_ := mk0 (bB (g := gb300) (o := .cells #[.int .i64 0, .int .i64 0, .string (⟨#[]⟩ : ByteArray)] 34 (0, 0)) (by (with_reducible repeat (first | apply bN | apply bD | apply bA)); exact BK300.out) hb); have n3_ := mk0 (below_step (by repeat (first | (with_reducible first | exact HB.out | apply wA | apply wN | apply wD | refine wS ?_ GE298.out | refine wS ?_ GE299.out | refine wS ?_ GE300.out) | exact HB.out)) hb); clear BK298; clear BK299; clear BK300; clear HB; have BK298 := n0_; have BK299 := n1_; have BK300 := n2_; have HB := n3_; clear n0_ n1_ n2_ n3_; (try clear hb); (try clear hb2); (try clear hk); (try clear hi)) | (go_at_call 72; (with_reducible refine (impl_truth.calls (decide (t320 ≤ 0)) t321 t322 t323 _ A86.out).mono ?_); rintro e w93 ⟨rfl, hb⟩; have n0_ := mk0 (bB (g := gb298) (o := .cells #[.int .i64 a1_0, .int .i64 a1_1, .string a1_2] 34 (0, 0)) (by (with_reducible repeat (first | apply bN | apply bD | apply bA)); exact BK298.out) hb); have n1_ := mk0 (bB (g := gb299) (o := .cells #[.int .i64 a2_0, .int .i64 a2_1, .string a2_2] 34 (0, 0)) (by (with_reducible repeat (first | apply bN | apply bD | apply bA)); exact BK299.out) hb); have n2_ := mk0 (bB (g := gb300) (o := .cells #[.int .i64 0, .int .i64 0, .string (⟨#[]⟩ : ByteArray)] 34 (0, 0)) (by (with_reducible repeat (first | apply bN | apply bD | apply bA)); exact BK300.out) hb); have n3_ := mk0 (below_step (by repeat (first | (with_reducible first | exact HB.out | apply wA | apply wN | apply wD | refine wS ?_ GE298.out | refine wS ?_ GE299.out | refine wS ?_ GE300.out) | exact HB.out)) hb); clear BK298; clear BK299; clear BK300; clear HB; have BK298 := n0_; have BK299 := n1_; have BK300 := n2_; have HB := n3_; clear n0_ n1_ n2_ n3_; (try clear hb); (try clear hb2); (try clear hk); (try clear hi); have hcz94_0 : w93.cell? ⟨gb300, 0, none⟩ = some (.int .i64 0) := (bC BK300.out 0).trans rfl; have hcz94_1 : w93.cell? ⟨gb300, 1, none⟩ = some (.int .i64 0) := (bC BK300.out 1).trans rfl; have hcz94_2 : w93.cell? ⟨gb300, 2, none⟩ = some (.string (⟨#[]⟩ : ByteArray)) := (bC BK300.out 2).trans rfl; have hfz94_0 := bF BK300.out 0; have hfz94_1 := bF BK300.out 1; have hfz94_2 := bF BK300.out 2)); try go_wp2_with (first | (go_at_call 93; (with_reducible refine (impl_order.calls kj3 a1_0 a1_1 a1_2 a2_0 a2_1 a2_2 t320 _ A85.out).mono ?_); rintro e w92 ⟨rfl, hb⟩; have n0_ := mk0 (bB (g := gb298) (o := .cells #[.int .i64 a1_0, .int .i64 a1_1, .string a1_2] 34 (0, 0)) (by (with_reducible repeat (first | apply bN | apply bD | apply bA)); exact BK298.out) hb); have n1_ := mk0 (bB (g := gb299) (o := .cells #[.int .i64 a2_0, .int .i64 a2_1, .string a2_2] 34 (0, 0)) (by (with_reducible repeat (first | apply bN | apply bD | apply bA)); exact BK299.out) hb); have n2_ := mk0 (bB (g := gb300) (o := .cells #[.int .i64 0, .int .i64 0, .string (⟨#[]⟩ : ByteArray)] 34 (0, 0)) (by (with_reducible repeat (first | apply bN | apply bD | apply bA)); exact BK300.out) hb); have n3_ := mk0 (below_step (by repeat (first | (with_reducible first | exact HB.out | apply wA | apply wN | apply wD | refine wS ?_ GE298.out | refine wS ?_ GE299.out | refine wS ?_ GE300.out) | exact HB.out)) hb); clear BK298; clear BK299; clear BK300; clear HB; have BK298 := n0_; have BK299 := n1_; have BK300 := n2_; have HB := n3_; clear n0_ n1_ n2_ n3_; (try clear hb); (try clear hb2); (try clear hk); (try clear hi)) | (go_at_call 72; (with_reducible refine (impl_truth.calls (decide (t320 ≤ 0)) t321 t322 t323 _ A86.out).mono ?_); rintro e w93 ⟨rfl, hb⟩; have n0_ := mk0 (bB (g := gb298) (o := .cells #[.int .i64 a1_0, .int .i64 a1_1, .string a1_2] 34 (0, 0)) (by (with_reducible repeat (first | apply bN | apply bD | apply bA)); exact BK298.out) hb); have n1_ := mk0 (bB (g := gb299) (o := .cells #[.int .i64 a2_0, .int .i64 a2_1, .string a2_2] 34 (0, 0)) (by (with_reducible repeat (first | apply bN | apply bD | apply bA)); exact BK299.out) hb); have n2_ := mk0 (bB (g := gb300) (o := .cells #[.int .i64 0, .int .i64 0, .string (⟨#[]⟩ : ByteArray)] 34 (0, 0)) (by (with_reducible repeat (first | apply bN | apply bD | apply bA)); exact BK300.out) hb); have n3_ := mk0 (below_step (by repeat (first | (with_reducible first | exact HB.out | apply wA | apply wN | apply wD | refine wS ?_ GE298.out | refine wS ?_ GE299.out | refine wS ?_ GE300.out) | exact HB.out)) hb); clear BK298; clear BK299; clear BK300; clear HB; have BK298 := n0_; have BK299 := n1_; have BK300 := n2_; have HB := n3_; clear n0_ n1_ n2_ n3_; (try clear hb); (try clear hb2); (try clear hk); (try clear hi); have hcz94_0 : w93.cell? ⟨gb300, 0, none⟩ = some (.int .i64 0) := (bC BK300.out 0).trans rfl; have hcz94_1 : w93.cell? ⟨gb300, 1, none⟩ = some (.int .i64 0) := (bC BK300.out 1).trans rfl; have hcz94_2 : w93.cell? ⟨gb300, 2, none⟩ = some (.string (⟨#[]⟩ : ByteArray)) := (bC BK300.out 2).trans rfl; have hfz94_0 := bF BK300.out 0; have hfz94_1 := bF BK300.out 1; have hfz94_2 := bF BK300.out 2)))
    refine bodyPost_ret (results_ct rfl _ _ gb300 34 #[.int .i64 t321, .int .i64 t322, .string t323] (0, 0) _ rfl (by (with_reducible repeat (first | apply bN | apply bD | apply bA)); refine blk_put (cs := #[.int .i64 t321, .int .i64 t322, .string (⟨#[]⟩ : ByteArray)]) ?_ 2 _ rfl; (with_reducible repeat (first | apply bN | apply bD | apply bA)); refine blk_put (cs := #[.int .i64 t321, .int .i64 0, .string (⟨#[]⟩ : ByteArray)]) ?_ 1 _ rfl; (with_reducible repeat (first | apply bN | apply bD | apply bA)); refine blk_put (cs := #[.int .i64 0, .int .i64 0, .string (⟨#[]⟩ : ByteArray)]) ?_ 0 _ rfl; (with_reducible repeat (first | apply bN | apply bD | apply bA)); exact BK300.out) Try.underlying34 rfl (by kernel_rfl)) rfl ?_
    exact ⟨by first | rfl | (simp [errW_none, errW_some] <;> rfl) | (simp [*, errW_none, errW_some] <;> rfl), by repeat (first | (with_reducible first | exact HB.out | apply wA | apply wN | apply wD | refine wS ?_ GE298.out | refine wS ?_ GE299.out | refine wS ?_ GE300.out) | exact HB.out)⟩
  rw [if_neg c84] at H
  have c84b0 : (a0 == 6) = false := beq_eq_false_iff_ne.mpr c84
  have c84b1 : (a0 != 6) = true := bne_iff_ne.mpr c84
  by_cases c95 : a0 = 7
  · rw [if_pos c95] at H
    have c95b0 : (a0 == 7) = true := beq_iff_eq.mpr c95
    have c95b1 : (a0 != 7) = false := bne_eq_false_iff_eq.mpr c95
    clear c95
    replace H := Option.bind_eq_some_iff.mp H
    obtain ⟨t324, A960, H⟩ := H
    replace H : ((impl_truth.f (decide (t324 > 0))).bind fun bt325 => (some (bt325.1, bt325.2.1, bt325.2.2, (⟨#[]⟩ : ByteArray)))) = some (r1, r2, r3, r4) := H
    have A96 := mk0 A960
    clear A960
    replace H := Option.bind_eq_some_iff.mp H
    obtain ⟨⟨t325, t326, t327⟩, A970, H⟩ := H
    replace H : (some (t325, t326, t327, (⟨#[]⟩ : ByteArray))) = some (r1, r2, r3, r4) := H
    have A97 := mk0 A970
    clear A970
    simp only [Option.some.injEq, Prod.mk.injEq] at H
    obtain ⟨rfl, rfl, rfl, rfl⟩ := H
    have hnb98 := NB298_299.out
    have hnc98 := NB299_298.out
    have hnb99 := NB298_300.out
    have hnc99 := NB300_298.out
    have hcz100_0 : wc.cell? ⟨gb298, 0, none⟩ = some (.int .i64 a1_0) := (bC BK298.out 0).trans rfl
    have hcz100_1 : wc.cell? ⟨gb298, 1, none⟩ = some (.int .i64 a1_1) := (bC BK298.out 1).trans rfl
    have hcz100_2 : wc.cell? ⟨gb298, 2, none⟩ = some (.string a1_2) := (bC BK298.out 2).trans rfl
    have hfz100_0 := bF BK298.out 0
    have hfz100_1 := bF BK298.out 1
    have hfz100_2 := bF BK298.out 2
    have hnb101 := NB299_300.out
    have hnc101 := NB300_299.out
    have hcz102_0 : wc.cell? ⟨gb299, 0, none⟩ = some (.int .i64 a2_0) := (bC BK299.out 0).trans rfl
    have hcz102_1 : wc.cell? ⟨gb299, 1, none⟩ = some (.int .i64 a2_1) := (bC BK299.out 1).trans rfl
    have hcz102_2 : wc.cell? ⟨gb299, 2, none⟩ = some (.string a2_2) := (bC BK299.out 2).trans rfl
    have hfz102_0 := bF BK299.out 0
    have hfz102_1 := bF BK299.out 1
    have hfz102_2 := bF BK299.out 2
    go_wp2_with (first | (go_at_call 93; (with_reducible refine (impl_order.calls kj3 a1_0 a1_1 a1_2 a2_0 a2_1 a2_2 t324 _ A96.out).mono ?_); rintro e w103 ⟨rfl, hb⟩; have n0_ := mk0 (bB (g := gb298) (o := .cells #[.int .i64 a1_0, .int .i64 a1_1, .string a1_2] 34 (0, 0)) (by (with_reducible repeat (first | apply bN | apply bD | apply bA)); exact BK298.out) hb); have n1_ := mk0 (bB (g := gb299) (o := .cells #[.int .i64 a2_0, .int .i64 a2_1, .string a2_2] 34 (0, 0)) (by (with_reducible repeat (first | apply bN | apply bD | apply bA)); exact BK299.out) hb); have n2_ := mk0 (bB (g := gb300) (o := .cells #[.int .i64 0, .int .i64 0, .string (⟨#[]⟩ : ByteArray)] 34 (0, 0)) (by (with_reducible repeat (first | apply bN | apply bD | apply bA)); exact BK300.out) hb); have n3_ := mk0 (below_step (by repeat (first | (with_reducible first | exact HB.out | apply wA | apply wN | apply wD | refine wS ?_ GE298.out | refine wS ?_ GE299.out | refine wS ?_ GE300.out) | exact HB.out)) hb); clear BK298; clear BK299; clear BK300; clear HB; have BK298 := n0_; have BK299 := n1_; have BK300 := n2_; have HB := n3_; clear n0_ n1_ n2_ n3_; (try clear hb); (try clear hb2); (try clear hk); (try clear hi)) | (go_at_call 72; (with_reducible refine (impl_truth.calls (decide (t324 > 0)) t325 t326 t327 _ A97.out).mono ?_); rintro e w104 ⟨rfl, hb⟩; have n0_ := mk0 (bB (g := gb298) (o := .cells #[.int .i64 a1_0, .int .i64 a1_1, .string a1_2] 34 (0, 0)) (by (with_reducible repeat (first | apply bN | apply bD | apply bA)); exact BK298.out) hb); have n1_ := mk0 (bB (g := gb299) (o := .cells #[.int .i64 a2_0, .int .i64 a2_1, .string a2_2] 34 (0, 0)) (by (with_reducible repeat (first | apply bN | apply bD | apply bA)); exact BK299.out) hb); have n2_ := mk0 (bB (g := gb300) (o := .cells #[.int .i64 0, .int .i64 0, .string (⟨#[]⟩ : ByteArray)] 34 (0, 0)) (by (with_reducible repeat (first | apply bN | apply bD | apply bA)); exact BK300.out) hb); have n3_ := mk0 (below_step (by repeat (first | (with_reducible first | exact HB.out | apply wA | apply wN | apply wD | refine wS ?_ GE298.out | refine wS ?_ GE299.out | refine wS ?_ GE300.out) | exact HB.out)) hb); clear BK298; clear BK299; clear BK300; clear HB; have BK298 := n0_; have BK299 := n1_; have BK300 := n2_; have HB := n3_; clear n0_ n1_ n2_ n3_; (try clear hb); (try clear hb2); (try clear hk); (try clear hi); have hcz105_0 : w104.cell? ⟨gb300, 0, none⟩ = some (.int .i64 0) := (bC BK300.out 0).trans rfl; have hcz105_1 : w104.cell? ⟨gb300, 1, none⟩ = some (.int .i64 0) := (bC BK300.out 1).trans rfl; have hcz105_2 : w104.cell? ⟨gb300, 2, none⟩ = some (.string (⟨#[]⟩ : ByteArray)) := (bC BK300.out 2).trans rfl; have hfz105_0 := bF BK300.out 0; have hfz105_1 := bF BK300.out 1; have hfz105_2 := bF BK300.out 2))
    repeat (go_quiet (first | (go_at_call 93; (with_reducible refine (impl_order.calls kj3 a1_0 a1_1 a1_2 a2_0 a2_1 a2_2 t324 _ A96.out).mono ?_); rintro e w103 ⟨rfl, hb⟩; have n0_ := mk0 (bB (g := gb298) (o := .cells #[.int .i64 a1_0, .int .i64 a1_1, .string a1_2] 34 (0, 0)) (by (with_reducible repeat (first | apply bN | apply bD | apply bA)); exact BK298.out) hb); have n1_ := mk0 (bB (g := gb299) (o := .cells #[.int .i64 a2_0, .int .i64 a2_1, .string a2_2] 34 (0, 0)) (by (with_reducible repeat (first | apply bN | apply bD | apply bA)); exact BK299.out) hb); have n2_ := mk0 (bB (g := gb300) (o := .cells #[.int .i64 0, .int .i64 0, .string (⟨#[]⟩ : ByteArray)] 34 (0, 0)) (by (with_reducible repeat (first | apply bN | apply bD | apply bA)); exact BK300.out) hb); have n3_ := mk0 (below_step (by repeat (first | (with_reducible first | exact HB.out | apply wA | apply wN | apply wD | refine wS ?_ GE298.out | refine wS ?_ GE299.out | refine wS ?_ GE300.out) | exact HB.out)) hb); clear BK298; clear BK299; clear BK300; clear HB; have BK298 := n0_; have BK299 := n1_; have BK300 := n2_; have HB := n3_; clear n0_ n1_ n2_ n3_; (try clear hb); (try clear hb2); (try clear hk); (try clear hi)) | (go_at_call 72; (with_reducible refine (impl_truth.calls (decide (t324 > 0)) t325 t326 t327 _ A97.out).mono ?_); rintro e w104 ⟨rfl, hb⟩; have n0_ := mk0 (bB (g := gb298) (o := .cells #[.int .i64 a1_0, .int .i64 a1_1, .string a1_2] 34 (0, 0)) (by (with_reducible repeat (first | apply bN | apply bD | apply bA)); exact BK298.out) hb); have n1_ := mk0 (bB (g := gb299) (o := .cells #[.int .i64 a2_0, .int .i64 a2_1, .string a2_2] 34 (0, 0)) (by (with_reducible repeat (first | apply bN | apply bD | apply bA)); exact BK299.out) hb); have n2_ := mk0 (bB (g := gb300) (o := .cells #[.int .i64 0, .int .i64 0, .string (⟨#[]⟩ : ByteArray)] 34 (0, 0)) (by (with_reducible repeat (first | apply bN | apply bD | apply bA)); exact BK300.out) hb); have n3_ := mk0 (below_step (by repeat (first | (with_reducible first | exact HB.out | apply wA | apply wN | apply wD | refine wS ?_ GE298.out | refine wS ?_ GE299.out | refine wS ?_ GE300.out) | exact HB.out)) hb); clear BK298; clear BK299; clear BK300; clear HB; have BK298 := n0_; have BK299 := n1_; have BK300 := n2_; have HB := n3_; clear n0_ n1_ n2_ n3_; (try clear hb); (try clear hb2); (try clear hk); (try clear hi); have hcz105_0 : w104.cell? ⟨gb300, 0, none⟩ = some (.int .i64 0) := (bC BK300.out 0).trans rfl; have hcz105_1 : w104.cell? ⟨gb300, 1, none⟩ = some (.int .i64 0) := (bC BK300.out 1).trans rfl; have hcz105_2 : w104.cell? ⟨gb300, 2, none⟩ = some (.string (⟨#[]⟩ : ByteArray)) := (bC BK300.out 2).trans rfl; have hfz105_0 := bF BK300.out 0; have hfz105_1 := bF BK300.out 1; have hfz105_2 := bF BK300.out 2)); try go_wp2_with (first | (go_at_call 93; (with_reducible refine (impl_order.calls kj3 a1_0 a1_1 a1_2 a2_0 a2_1 a2_2 t324 _ A96.out).mono ?_); rintro e w103 ⟨rfl, hb⟩; have n0_ := mk0 (bB (g := gb298) (o := .cells #[.int .i64 a1_0, .int .i64 a1_1, .string a1_2] 34 (0, 0)) (by (with_reducible repeat (first | apply bN | apply bD | apply bA)); exact BK298.out) hb); have n1_ := mk0 (bB (g := gb299) (o := .cells #[.int .i64 a2_0, .int .i64 a2_1, .string a2_2] 34 (0, 0)) (by (with_reducible repeat (first | apply bN | apply bD | apply bA)); exact BK299.out) hb); have n2_ := mk0 (bB (g := gb300) (o := .cells #[.int .i64 0, .int .i64 0, .string (⟨#[]⟩ : ByteArray)] 34 (0, 0)) (by (with_reducible repeat (first | apply bN | apply bD | apply bA)); exact BK300.out) hb); have n3_ := mk0 (below_step (by repeat (first | (with_reducible first | exact HB.out | apply wA | apply wN | apply wD | refine wS ?_ GE298.out | refine wS ?_ GE299.out | refine wS ?_ GE300.out) | exact HB.out)) hb); clear BK298; clear BK299; clear BK300; clear HB; have BK298 := n0_; have BK299 := n1_; have BK300 := n2_; have HB := n3_; clear n0_ n1_ n2_ n3_; (try clear hb); (try clear hb2); (try clear hk); (try clear hi)) | (go_at_call 72; (with_reducible refine (impl_truth.calls (decide (t324 > 0)) t325 t326 t327 _ A97.out).mono ?_); rintro e w104 ⟨rfl, hb⟩; have n0_ := mk0 (bB (g := gb298) (o := .cells #[.int .i64 a1_0, .int .i64 a1_1, .string a1_2] 34 (0, 0)) (by (with_reducible repeat (first | apply bN | apply bD | apply bA)); exact BK298.out) hb); have n1_ := mk0 (bB (g := gb299) (o := .cells #[.int .i64 a2_0, .int .i64 a2_1, .string a2_2] 34 (0, 0)) (by (with_reducible repeat (first | apply bN | apply bD | apply bA)); exact BK299.out) hb); have n2_ := mk0 (bB (g := gb300) (o := .cells #[.int .i64 0, .int .i64 0, .string (⟨#[]⟩ : ByteArray)] 34 (0, 0)) (by (with_reducible repeat (first | apply bN | apply bD | apply bA)); exact BK300.out) hb); have n3_ := mk0 (below_step (by repeat (first | (with_reducible first | exact HB.out | apply wA | apply wN | apply wD | refine wS ?_ GE298.out | refine wS ?_ GE299.out | refine wS ?_ GE300.out) | exact HB.out)) hb); clear BK298; clear BK299; clear BK300; clear HB; have BK298 := n0_; have BK299 := n1_; have BK300 := n2_; have HB := n3_; clear n0_ n1_ n2_ n3_; (try clear hb); (try clear hb2); (try clear hk); (try clear hi); have hcz105_0 : w104.cell? ⟨gb300, 0, none⟩ = some (.int .i64 0) := (bC BK300.out 0).trans rfl; have hcz105_1 : w104.cell? ⟨gb300, 1, none⟩ = some (.int .i64 0) := (bC BK300.out 1).trans rfl; have hcz105_2 : w104.cell? ⟨gb300, 2, none⟩ = some (.string (⟨#[]⟩ : ByteArray)) := (bC BK300.out 2).trans rfl; have hfz105_0 := bF BK300.out 0; have hfz105_1 := bF BK300.out 1; have hfz105_2 := bF BK300.out 2)))
    refine bodyPost_ret (results_ct rfl _ _ gb300 34 #[.int .i64 t325, .int .i64 t326, .string t327] (0, 0) _ rfl (by (with_reducible repeat (first | apply bN | apply bD | apply bA)); refine blk_put (cs := #[.int .i64 t325, .int .i64 t326, .string (⟨#[]⟩ : ByteArray)]) ?_ 2 _ rfl; (with_reducible repeat (first | apply bN | apply bD | apply bA)); refine blk_put (cs := #[.int .i64 t325, .int .i64 0, .string (⟨#[]⟩ : ByteArray)]) ?_ 1 _ rfl; (with_reducible repeat (first | apply bN | apply bD | apply bA)); refine blk_put (cs := #[.int .i64 0, .int .i64 0, .string (⟨#[]⟩ : ByteArray)]) ?_ 0 _ rfl; (with_reducible repeat (first | apply bN | apply bD | apply bA)); exact BK300.out) Try.underlying34 rfl (by kernel_rfl)) rfl ?_
    exact ⟨by first | rfl | (simp [errW_none, errW_some] <;> rfl) | (simp [*, errW_none, errW_some] <;> rfl), by repeat (first | (with_reducible first | exact HB.out | apply wA | apply wN | apply wD | refine wS ?_ GE298.out | refine wS ?_ GE299.out | refine wS ?_ GE300.out) | exact HB.out)⟩
  rw [if_neg c95] at H
  have c95b0 : (a0 == 7) = false := beq_eq_false_iff_ne.mpr c95
  have c95b1 : (a0 != 7) = true := bne_iff_ne.mpr c95
  by_cases c106 : a0 = 8
  · rw [if_pos c106] at H
    have c106b0 : (a0 == 8) = true := beq_iff_eq.mpr c106
    have c106b1 : (a0 != 8) = false := bne_eq_false_iff_eq.mpr c106
    clear c106
    replace H := Option.bind_eq_some_iff.mp H
    obtain ⟨t328, A1070, H⟩ := H
    replace H : ((impl_truth.f (decide (t328 ≥ 0))).bind fun bt329 => (some (bt329.1, bt329.2.1, bt329.2.2, (⟨#[]⟩ : ByteArray)))) = some (r1, r2, r3, r4) := H
    have A107 := mk0 A1070
    clear A1070
    replace H := Option.bind_eq_some_iff.mp H
    obtain ⟨⟨t329, t330, t331⟩, A1080, H⟩ := H
    replace H : (some (t329, t330, t331, (⟨#[]⟩ : ByteArray))) = some (r1, r2, r3, r4) := H
    have A108 := mk0 A1080
    clear A1080
    simp only [Option.some.injEq, Prod.mk.injEq] at H
    obtain ⟨rfl, rfl, rfl, rfl⟩ := H
    have hnb109 := NB298_299.out
    have hnc109 := NB299_298.out
    have hnb110 := NB298_300.out
    have hnc110 := NB300_298.out
    have hcz111_0 : wc.cell? ⟨gb298, 0, none⟩ = some (.int .i64 a1_0) := (bC BK298.out 0).trans rfl
    have hcz111_1 : wc.cell? ⟨gb298, 1, none⟩ = some (.int .i64 a1_1) := (bC BK298.out 1).trans rfl
    have hcz111_2 : wc.cell? ⟨gb298, 2, none⟩ = some (.string a1_2) := (bC BK298.out 2).trans rfl
    have hfz111_0 := bF BK298.out 0
    have hfz111_1 := bF BK298.out 1
    have hfz111_2 := bF BK298.out 2
    have hnb112 := NB299_300.out
    have hnc112 := NB300_299.out
    have hcz113_0 : wc.cell? ⟨gb299, 0, none⟩ = some (.int .i64 a2_0) := (bC BK299.out 0).trans rfl
    have hcz113_1 : wc.cell? ⟨gb299, 1, none⟩ = some (.int .i64 a2_1) := (bC BK299.out 1).trans rfl
    have hcz113_2 : wc.cell? ⟨gb299, 2, none⟩ = some (.string a2_2) := (bC BK299.out 2).trans rfl
    have hfz113_0 := bF BK299.out 0
    have hfz113_1 := bF BK299.out 1
    have hfz113_2 := bF BK299.out 2
    go_wp2_with (first | (go_at_call 93; (with_reducible refine (impl_order.calls kj3 a1_0 a1_1 a1_2 a2_0 a2_1 a2_2 t328 _ A107.out).mono ?_); rintro e w114 ⟨rfl, hb⟩; have n0_ := mk0 (bB (g := gb298) (o := .cells #[.int .i64 a1_0, .int .i64 a1_1, .string a1_2] 34 (0, 0)) (by (with_reducible repeat (first | apply bN | apply bD | apply bA)); exact BK298.out) hb); have n1_ := mk0 (bB (g := gb299) (o := .cells #[.int .i64 a2_0, .int .i64 a2_1, .string a2_2] 34 (0, 0)) (by (with_reducible repeat (first | apply bN | apply bD | apply bA)); exact BK299.out) hb); have n2_ := mk0 (bB (g := gb300) (o := .cells #[.int .i64 0, .int .i64 0, .string (⟨#[]⟩ : ByteArray)] 34 (0, 0)) (by (with_reducible repeat (first | apply bN | apply bD | apply bA)); exact BK300.out) hb); have n3_ := mk0 (below_step (by repeat (first | (with_reducible first | exact HB.out | apply wA | apply wN | apply wD | refine wS ?_ GE298.out | refine wS ?_ GE299.out | refine wS ?_ GE300.out) | exact HB.out)) hb); clear BK298; clear BK299; clear BK300; clear HB; have BK298 := n0_; have BK299 := n1_; have BK300 := n2_; have HB := n3_; clear n0_ n1_ n2_ n3_; (try clear hb); (try clear hb2); (try clear hk); (try clear hi)) | (go_at_call 72; (with_reducible refine (impl_truth.calls (decide (t328 ≥ 0)) t329 t330 t331 _ A108.out).mono ?_); rintro e w115 ⟨rfl, hb⟩; have n0_ := mk0 (bB (g := gb298) (o := .cells #[.int .i64 a1_0, .int .i64 a1_1, .string a1_2] 34 (0, 0)) (by (with_reducible repeat (first | apply bN | apply bD | apply bA)); exact BK298.out) hb); have n1_ := mk0 (bB (g := gb299) (o := .cells #[.int .i64 a2_0, .int .i64 a2_1, .string a2_2] 34 (0, 0)) (by (with_reducible repeat (first | apply bN | apply bD | apply bA)); exact BK299.out) hb); have n2_ := mk0 (bB (g := gb300) (o := .cells #[.int .i64 0, .int .i64 0, .string (⟨#[]⟩ : ByteArray)] 34 (0, 0)) (by (with_reducible repeat (first | apply bN | apply bD | apply bA)); exact BK300.out) hb); have n3_ := mk0 (below_step (by repeat (first | (with_reducible first | exact HB.out | apply wA | apply wN | apply wD | refine wS ?_ GE298.out | refine wS ?_ GE299.out | refine wS ?_ GE300.out) | exact HB.out)) hb); clear BK298; clear BK299; clear BK300; clear HB; have BK298 := n0_; have BK299 := n1_; have BK300 := n2_; have HB := n3_; clear n0_ n1_ n2_ n3_; (try clear hb); (try clear hb2); (try clear hk); (try clear hi); have hcz116_0 : w115.cell? ⟨gb300, 0, none⟩ = some (.int .i64 0) := (bC BK300.out 0).trans rfl; have hcz116_1 : w115.cell? ⟨gb300, 1, none⟩ = some (.int .i64 0) := (bC BK300.out 1).trans rfl; have hcz116_2 : w115.cell? ⟨gb300, 2, none⟩ = some (.string (⟨#[]⟩ : ByteArray)) := (bC BK300.out 2).trans rfl; have hfz116_0 := bF BK300.out 0; have hfz116_1 := bF BK300.out 1; have hfz116_2 := bF BK300.out 2))
    repeat (go_quiet (first | (go_at_call 93; (with_reducible refine (impl_order.calls kj3 a1_0 a1_1 a1_2 a2_0 a2_1 a2_2 t328 _ A107.out).mono ?_); rintro e w114 ⟨rfl, hb⟩; have n0_ := mk0 (bB (g := gb298) (o := .cells #[.int .i64 a1_0, .int .i64 a1_1, .string a1_2] 34 (0, 0)) (by (with_reducible repeat (first | apply bN | apply bD | apply bA)); exact BK298.out) hb); have n1_ := mk0 (bB (g := gb299) (o := .cells #[.int .i64 a2_0, .int .i64 a2_1, .string a2_2] 34 (0, 0)) (by (with_reducible repeat (first | apply bN | apply bD | apply bA)); exact BK299.out) hb); have n2_ := mk0 (bB (g := gb300) (o := .cells #[.int .i64 0, .int .i64 0, .string (⟨#[]⟩ : ByteArray)] 34 (0, 0)) (by (with_reducible repeat (first | apply bN | apply bD | apply bA)); exact BK300.out) hb); have n3_ := mk0 (below_step (by repeat (first | (with_reducible first | exact HB.out | apply wA | apply wN | apply wD | refine wS ?_ GE298.out | refine wS ?_ GE299.out | refine wS ?_ GE300.out) | exact HB.out)) hb); clear BK298; clear BK299; clear BK300; clear HB; have BK298 := n0_; have BK299 := n1_; have BK300 := n2_; have HB := n3_; clear n0_ n1_ n2_ n3_; (try clear hb); (try clear hb2); (try clear hk); (try clear hi)) | (go_at_call 72; (with_reducible refine (impl_truth.calls (decide (t328 ≥ 0)) t329 t330 t331 _ A108.out).mono ?_); rintro e w115 ⟨rfl, hb⟩; have n0_ := mk0 (bB (g := gb298) (o := .cells #[.int .i64 a1_0, .int .i64 a1_1, .string a1_2] 34 (0, 0)) (by (with_reducible repeat (first | apply bN | apply bD | apply bA)); exact BK298.out) hb); have n1_ := mk0 (bB (g := gb299) (o := .cells #[.int .i64 a2_0, .int .i64 a2_1, .string a2_2] 34 (0, 0)) (by (with_reducible repeat (first | apply bN | apply bD | apply bA)); exact BK299.out) hb); have n2_ := mk0 (bB (g := gb300) (o := .cells #[.int .i64 0, .int .i64 0, .string (⟨#[]⟩ : ByteArray)] 34 (0, 0)) (by (with_reducible repeat (first | apply bN | apply bD | apply bA)); exact BK300.out) hb); have n3_ := mk0 (below_step (by repeat (first | (with_reducible first | exact HB.out | apply wA | apply wN | apply wD | refine wS ?_ GE298.out | refine wS ?_ GE299.out | refine wS ?_ GE300.out) | exact HB.out)) hb); clear BK298; clear BK299; clear BK300; clear HB; have BK298 := n0_; have BK299 := n1_; have BK300 := n2_; have HB := n3_; clear n0_ n1_ n2_ n3_; (try clear hb); (try clear hb2); (try clear hk); (try clear hi); have hcz116_0 : w115.cell? ⟨gb300, 0, none⟩ = some (.int .i64 0) := (bC BK300.out 0).trans rfl; have hcz116_1 : w115.cell? ⟨gb300, 1, none⟩ = some (.int .i64 0) := (bC BK300.out 1).trans rfl; have hcz116_2 : w115.cell? ⟨gb300, 2, none⟩ = some (.string (⟨#[]⟩ : ByteArray)) := (bC BK300.out 2).trans rfl; have hfz116_0 := bF BK300.out 0; have hfz116_1 := bF BK300.out 1; have hfz116_2 := bF BK300.out 2)); try go_wp2_with (first | (go_at_call 93; (with_reducible refine (impl_order.calls kj3 a1_0 a1_1 a1_2 a2_0 a2_1 a2_2 t328 _ A107.out).mono ?_); rintro e w114 ⟨rfl, hb⟩; have n0_ := mk0 (bB (g := gb298) (o := .cells #[.int .i64 a1_0, .int .i64 a1_1, .string a1_2] 34 (0, 0)) (by (with_reducible repeat (first | apply bN | apply bD | apply bA)); exact BK298.out) hb); have n1_ := mk0 (bB (g := gb299) (o := .cells #[.int .i64 a2_0, .int .i64 a2_1, .string a2_2] 34 (0, 0)) (by (with_reducible repeat (first | apply bN | apply bD | apply bA)); exact BK299.out) hb); have n2_ := mk0 (bB (g := gb300) (o := .cells #[.int .i64 0, .int .i64 0, .string (⟨#[]⟩ : ByteArray)] 34 (0, 0)) (by (with_reducible repeat (first | apply bN | apply bD | apply bA)); exact BK300.out) hb); have n3_ := mk0 (below_step (by repeat (first | (with_reducible first | exact HB.out | apply wA | apply wN | apply wD | refine wS ?_ GE298.out | refine wS ?_ GE299.out | refine wS ?_ GE300.out) | exact HB.out)) hb); clear BK298; clear BK299; clear BK300; clear HB; have BK298 := n0_; have BK299 := n1_; have BK300 := n2_; have HB := n3_; clear n0_ n1_ n2_ n3_; (try clear hb); (try clear hb2); (try clear hk); (try clear hi)) | (go_at_call 72; (with_reducible refine (impl_truth.calls (decide (t328 ≥ 0)) t329 t330 t331 _ A108.out).mono ?_); rintro e w115 ⟨rfl, hb⟩; have n0_ := mk0 (bB (g := gb298) (o := .cells #[.int .i64 a1_0, .int .i64 a1_1, .string a1_2] 34 (0, 0)) (by (with_reducible repeat (first | apply bN | apply bD | apply bA)); exact BK298.out) hb); have n1_ := mk0 (bB (g := gb299) (o := .cells #[.int .i64 a2_0, .int .i64 a2_1, .string a2_2] 34 (0, 0)) (by (with_reducible repeat (first | apply bN | apply bD | apply bA)); exact BK299.out) hb); have n2_ := mk0 (bB (g := gb300) (o := .cells #[.int .i64 0, .int .i64 0, .string (⟨#[]⟩ : ByteArray)] 34 (0, 0)) (by (with_reducible repeat (first | apply bN | apply bD | apply bA)); exact BK300.out) hb); have n3_ := mk0 (below_step (by repeat (first | (with_reducible first | exact HB.out | apply wA | apply wN | apply wD | refine wS ?_ GE298.out | refine wS ?_ GE299.out | refine wS ?_ GE300.out) | exact HB.out)) hb); clear BK298; clear BK299; clear BK300; clear HB; have BK298 := n0_; have BK299 := n1_; have BK300 := n2_; have HB := n3_; clear n0_ n1_ n2_ n3_; (try clear hb); (try clear hb2); (try clear hk); (try clear hi); have hcz116_0 : w115.cell? ⟨gb300, 0, none⟩ = some (.int .i64 0) := (bC BK300.out 0).trans rfl; have hcz116_1 : w115.cell? ⟨gb300, 1, none⟩ = some (.int .i64 0) := (bC BK300.out 1).trans rfl; have hcz116_2 : w115.cell? ⟨gb300, 2, none⟩ = some (.string (⟨#[]⟩ : ByteArray)) := (bC BK300.out 2).trans rfl; have hfz116_0 := bF BK300.out 0; have hfz116_1 := bF BK300.out 1; have hfz116_2 := bF BK300.out 2)))
    refine bodyPost_ret (results_ct rfl _ _ gb300 34 #[.int .i64 t329, .int .i64 t330, .string t331] (0, 0) _ rfl (by (with_reducible repeat (first | apply bN | apply bD | apply bA)); refine blk_put (cs := #[.int .i64 t329, .int .i64 t330, .string (⟨#[]⟩ : ByteArray)]) ?_ 2 _ rfl; (with_reducible repeat (first | apply bN | apply bD | apply bA)); refine blk_put (cs := #[.int .i64 t329, .int .i64 0, .string (⟨#[]⟩ : ByteArray)]) ?_ 1 _ rfl; (with_reducible repeat (first | apply bN | apply bD | apply bA)); refine blk_put (cs := #[.int .i64 0, .int .i64 0, .string (⟨#[]⟩ : ByteArray)]) ?_ 0 _ rfl; (with_reducible repeat (first | apply bN | apply bD | apply bA)); exact BK300.out) Try.underlying34 rfl (by kernel_rfl)) rfl ?_
    exact ⟨by first | rfl | (simp [errW_none, errW_some] <;> rfl) | (simp [*, errW_none, errW_some] <;> rfl), by repeat (first | (with_reducible first | exact HB.out | apply wA | apply wN | apply wD | refine wS ?_ GE298.out | refine wS ?_ GE299.out | refine wS ?_ GE300.out) | exact HB.out)⟩
  rw [if_neg c106] at H
  have c106b0 : (a0 == 8) = false := beq_eq_false_iff_ne.mpr c106
  have c106b1 : (a0 != 8) = true := bne_iff_ne.mpr c106
  by_cases c117 : a1_0 = 2
  · rw [if_pos c117] at H
    have c117b0 : (a1_0 == 2) = true := beq_iff_eq.mpr c117
    have c117b1 : (a1_0 != 2) = false := bne_eq_false_iff_eq.mpr c117
    clear c117
    by_cases c118 : a1_2.size + a2_2.size ≤ 9223372036854775807
    · rw [if_pos c118] at H
      have c118b0 := eq_true c118
      have c118b1 : decide (a1_2.size + a2_2.size ≤ 9223372036854775807) = true := decide_eq_true c118
      try have c118b2 : (9223372036854775807 < a1_2.size + a2_2.size) = False := eq_false (Nat.not_lt.2 c118)
      by_cases c119 : ((a1_2 ++ a2_2).size : Int) > 3000
      · rw [if_pos c119] at H
        have c119b0 : decide (3000 < ((a1_2 ++ a2_2).size : Int)) = true := decide_eq_true c119
        (try (have c119b0m := c119b0; simp only [ByteArray.size_append, Int.natCast_add] at c119b0m))
        have c119b1 : decide (3000 < (a1_2 ++ a2_2).size) = true := decide_eq_true (by omega)
        (try (have c119b1m := c119b1; simp only [ByteArray.size_append, Int.natCast_add] at c119b1m))
        clear c119
        simp only [Option.some.injEq, Prod.mk.injEq] at H
        obtain ⟨rfl, rfl, rfl, rfl⟩ := H
        have hnb120 := NB298_299.out
        have hnc120 := NB299_298.out
        have hnb121 := NB298_300.out
        have hnc121 := NB300_298.out
        have hcz122_0 : wc.cell? ⟨gb298, 0, none⟩ = some (.int .i64 a1_0) := (bC BK298.out 0).trans rfl
        have hcz122_1 : wc.cell? ⟨gb298, 1, none⟩ = some (.int .i64 a1_1) := (bC BK298.out 1).trans rfl
        have hcz122_2 : wc.cell? ⟨gb298, 2, none⟩ = some (.string a1_2) := (bC BK298.out 2).trans rfl
        have hfz122_0 := bF BK298.out 0
        have hfz122_1 := bF BK298.out 1
        have hfz122_2 := bF BK298.out 2
        have hnb123 := NB299_300.out
        have hnc123 := NB300_299.out
        have hcz124_0 : wc.cell? ⟨gb299, 0, none⟩ = some (.int .i64 a2_0) := (bC BK299.out 0).trans rfl
        have hcz124_1 : wc.cell? ⟨gb299, 1, none⟩ = some (.int .i64 a2_1) := (bC BK299.out 1).trans rfl
        have hcz124_2 : wc.cell? ⟨gb299, 2, none⟩ = some (.string a2_2) := (bC BK299.out 2).trans rfl
        have hfz124_0 := bF BK299.out 0
        have hfz124_1 := bF BK299.out 1
        have hfz124_2 := bF BK299.out 2
        have hcz125_0 : wc.cell? ⟨gb300, 0, none⟩ = some (.int .i64 0) := (bC BK300.out 0).trans rfl
        have hcz125_1 : wc.cell? ⟨gb300, 1, none⟩ = some (.int .i64 0) := (bC BK300.out 1).trans rfl
        have hcz125_2 : wc.cell? ⟨gb300, 2, none⟩ = some (.string (⟨#[]⟩ : ByteArray)) := (bC BK300.out 2).trans rfl
        have hfz125_0 := bF BK300.out 0
        have hfz125_1 := bF BK300.out 1
        have hfz125_2 := bF BK300.out 2
        go_wp2
        repeat (go_quiet (fail); try go_wp2)
        refine bodyPost_ret (results_ct rfl _ _ gb300 34 #[.int .i64 0, .int .i64 0, .string (⟨#[]⟩ : ByteArray)] (0, 0) _ rfl (by (with_reducible repeat (first | apply bN | apply bD | apply bA)); refine blk_put (cs := #[.int .i64 0, .int .i64 0, .string (⟨#[]⟩ : ByteArray)]) ?_ 2 _ rfl; (with_reducible repeat (first | apply bN | apply bD | apply bA)); refine blk_put (cs := #[.int .i64 0, .int .i64 0, .string (⟨#[]⟩ : ByteArray)]) ?_ 1 _ rfl; (with_reducible repeat (first | apply bN | apply bD | apply bA)); refine blk_put (cs := #[.int .i64 0, .int .i64 0, .string (⟨#[]⟩ : ByteArray)]) ?_ 0 _ rfl; (with_reducible repeat (first | apply bN | apply bD | apply bA)); exact BK300.out) Try.underlying34 rfl (by kernel_rfl)) rfl ?_
        exact ⟨by first | rfl | (simp [errW_none, errW_some] <;> rfl) | (simp [*, errW_none, errW_some] <;> rfl), by repeat (first | (with_reducible first | exact HB.out | apply wA | apply wN | apply wD | refine wS ?_ GE298.out | refine wS ?_ GE299.out | refine wS ?_ GE300.out) | exact HB.out)⟩
      rw [if_neg c119] at H
      have c119b0 : decide (3000 < ((a1_2 ++ a2_2).size : Int)) = false := decide_eq_false c119
      (try (have c119b0m := c119b0; simp only [ByteArray.size_append, Int.natCast_add] at c119b0m))
      have c119b1 : decide (3000 < (a1_2 ++ a2_2).size) = false := decide_eq_false (by omega)
      (try (have c119b1m := c119b1; simp only [ByteArray.size_append, Int.natCast_add] at c119b1m))
      clear c119
      simp only [Option.some.injEq, Prod.mk.injEq] at H
      obtain ⟨rfl, rfl, rfl, rfl⟩ := H
      have hnb126 := NB298_299.out
      have hnc126 := NB299_298.out
      have hnb127 := NB298_300.out
      have hnc127 := NB300_298.out
      have hcz128_0 : wc.cell? ⟨gb298, 0, none⟩ = some (.int .i64 a1_0) := (bC BK298.out 0).trans rfl
      have hcz128_1 : wc.cell? ⟨gb298, 1, none⟩ = some (.int .i64 a1_1) := (bC BK298.out 1).trans rfl
      have hcz128_2 : wc.cell? ⟨gb298, 2, none⟩ = some (.string a1_2) := (bC BK298.out 2).trans rfl
      have hfz128_0 := bF BK298.out 0
      have hfz128_1 := bF BK298.out 1
      have hfz128_2 := bF BK298.out 2
      have hnb129 := NB299_300.out
      have hnc129 := NB300_299.out
      have hcz130_0 : wc.cell? ⟨gb299, 0, none⟩ = some (.int .i64 a2_0) := (bC BK299.out 0).trans rfl
      have hcz130_1 : wc.cell? ⟨gb299, 1, none⟩ = some (.int .i64 a2_1) := (bC BK299.out 1).trans rfl
      have hcz130_2 : wc.cell? ⟨gb299, 2, none⟩ = some (.string a2_2) := (bC BK299.out 2).trans rfl
      have hfz130_0 := bF BK299.out 0
      have hfz130_1 := bF BK299.out 1
      have hfz130_2 := bF BK299.out 2
      have hcz131_0 : wc.cell? ⟨gb300, 0, none⟩ = some (.int .i64 0) := (bC BK300.out 0).trans rfl
      have hcz131_1 : wc.cell? ⟨gb300, 1, none⟩ = some (.int .i64 0) := (bC BK300.out 1).trans rfl
      have hcz131_2 : wc.cell? ⟨gb300, 2, none⟩ = some (.string (⟨#[]⟩ : ByteArray)) := (bC BK300.out 2).trans rfl
      have hfz131_0 := bF BK300.out 0
      have hfz131_1 := bF BK300.out 1
      have hfz131_2 := bF BK300.out 2
      go_wp2
      repeat (go_quiet (fail); try go_wp2)
      refine bodyPost_ret (results_ct rfl _ _ gb300 34 #[.int .i64 2, .int .i64 0, .string (a1_2 ++ a2_2)] (0, 0) _ rfl (by (with_reducible repeat (first | apply bN | apply bD | apply bA)); refine blk_put (cs := #[.int .i64 2, .int .i64 0, .string (⟨#[]⟩ : ByteArray)]) ?_ 2 _ rfl; (with_reducible repeat (first | apply bN | apply bD | apply bA)); refine blk_put (cs := #[.int .i64 2, .int .i64 0, .string (⟨#[]⟩ : ByteArray)]) ?_ 1 _ rfl; (with_reducible repeat (first | apply bN | apply bD | apply bA)); refine blk_put (cs := #[.int .i64 0, .int .i64 0, .string (⟨#[]⟩ : ByteArray)]) ?_ 0 _ rfl; (with_reducible repeat (first | apply bN | apply bD | apply bA)); exact BK300.out) Try.underlying34 rfl (by kernel_rfl)) rfl ?_
      exact ⟨by first | rfl | (simp [errW_none, errW_some] <;> rfl) | (simp [*, errW_none, errW_some] <;> rfl), by repeat (first | (with_reducible first | exact HB.out | apply wA | apply wN | apply wD | refine wS ?_ GE298.out | refine wS ?_ GE299.out | refine wS ?_ GE300.out) | exact HB.out)⟩
    rw [if_neg c118] at H
    exact absurd H (by simp)
  rw [if_neg c117] at H
  have c117b0 : (a1_0 == 2) = false := beq_eq_false_iff_ne.mpr c117
  have c117b1 : (a1_0 != 2) = true := bne_iff_ne.mpr c117
  by_cases c132 : a0 = 9
  · rw [if_pos c132] at H
    have c132b0 : (a0 == 9) = true := beq_iff_eq.mpr c132
    have c132b1 : (a0 != 9) = false := bne_eq_false_iff_eq.mpr c132
    clear c132
    replace H := Option.bind_eq_some_iff.mp H
    obtain ⟨t332, A1330, H⟩ := H
    replace H : (some (a1_0, t332, (⟨#[]⟩ : ByteArray), (⟨#[]⟩ : ByteArray))) = some (r1, r2, r3, r4) := H
    have A133 := mk0 A1330
    clear A1330
    simp only [Option.some.injEq, Prod.mk.injEq] at H
    obtain ⟨rfl, rfl, rfl, rfl⟩ := H
    have hnb134 := NB298_299.out
    have hnc134 := NB299_298.out
    have hnb135 := NB298_300.out
    have hnc135 := NB300_298.out
    have hcz136_0 : wc.cell? ⟨gb298, 0, none⟩ = some (.int .i64 a1_0) := (bC BK298.out 0).trans rfl
    have hcz136_1 : wc.cell? ⟨gb298, 1, none⟩ = some (.int .i64 a1_1) := (bC BK298.out 1).trans rfl
    have hcz136_2 : wc.cell? ⟨gb298, 2, none⟩ = some (.string a1_2) := (bC BK298.out 2).trans rfl
    have hfz136_0 := bF BK298.out 0
    have hfz136_1 := bF BK298.out 1
    have hfz136_2 := bF BK298.out 2
    have hnb137 := NB299_300.out
    have hnc137 := NB300_299.out
    have hcz138_0 : wc.cell? ⟨gb299, 0, none⟩ = some (.int .i64 a2_0) := (bC BK299.out 0).trans rfl
    have hcz138_1 : wc.cell? ⟨gb299, 1, none⟩ = some (.int .i64 a2_1) := (bC BK299.out 1).trans rfl
    have hcz138_2 : wc.cell? ⟨gb299, 2, none⟩ = some (.string a2_2) := (bC BK299.out 2).trans rfl
    have hfz138_0 := bF BK299.out 0
    have hfz138_1 := bF BK299.out 1
    have hfz138_2 := bF BK299.out 2
    go_wp2_with (first | (go_at_call 60; (with_reducible refine (impl_into.calls kj3 (IntKind.u64.wrap ((IntKind.u64.wrap (a1_1)) + (IntKind.u64.wrap (a2_1)))) a1_0 t332 _ A133.out).mono ?_); rintro e w' ⟨rfl, ⟨nd, rfl⟩⟩; (try first | exact ⟨rfl, _, World.drewN_drewN _ _ _⟩ | exact ⟨rfl, _, Eq.trans (World.drewN_drewN _ _ _) (congrArg (World.drewN _) (Nat.add_assoc _ _ _))⟩); have hcz139_0 : wc.cell? ⟨gb300, 0, none⟩ = some (.int .i64 0) := (bC BK300.out 0).trans rfl; have hcz139_1 : wc.cell? ⟨gb300, 1, none⟩ = some (.int .i64 0) := (bC BK300.out 1).trans rfl; have hcz139_2 : wc.cell? ⟨gb300, 2, none⟩ = some (.string (⟨#[]⟩ : ByteArray)) := (bC BK300.out 2).trans rfl; have hfz139_0 := bF BK300.out 0; have hfz139_1 := bF BK300.out 1; have hfz139_2 := bF BK300.out 2))
    repeat (go_quiet (first | (go_at_call 60; (with_reducible refine (impl_into.calls kj3 (IntKind.u64.wrap ((IntKind.u64.wrap (a1_1)) + (IntKind.u64.wrap (a2_1)))) a1_0 t332 _ A133.out).mono ?_); rintro e w' ⟨rfl, ⟨nd, rfl⟩⟩; (try first | exact ⟨rfl, _, World.drewN_drewN _ _ _⟩ | exact ⟨rfl, _, Eq.trans (World.drewN_drewN _ _ _) (congrArg (World.drewN _) (Nat.add_assoc _ _ _))⟩); have hcz139_0 : wc.cell? ⟨gb300, 0, none⟩ = some (.int .i64 0) := (bC BK300.out 0).trans rfl; have hcz139_1 : wc.cell? ⟨gb300, 1, none⟩ = some (.int .i64 0) := (bC BK300.out 1).trans rfl; have hcz139_2 : wc.cell? ⟨gb300, 2, none⟩ = some (.string (⟨#[]⟩ : ByteArray)) := (bC BK300.out 2).trans rfl; have hfz139_0 := bF BK300.out 0; have hfz139_1 := bF BK300.out 1; have hfz139_2 := bF BK300.out 2)); try go_wp2_with (first | (go_at_call 60; (with_reducible refine (impl_into.calls kj3 (IntKind.u64.wrap ((IntKind.u64.wrap (a1_1)) + (IntKind.u64.wrap (a2_1)))) a1_0 t332 _ A133.out).mono ?_); rintro e w' ⟨rfl, ⟨nd, rfl⟩⟩; (try first | exact ⟨rfl, _, World.drewN_drewN _ _ _⟩ | exact ⟨rfl, _, Eq.trans (World.drewN_drewN _ _ _) (congrArg (World.drewN _) (Nat.add_assoc _ _ _))⟩); have hcz139_0 : wc.cell? ⟨gb300, 0, none⟩ = some (.int .i64 0) := (bC BK300.out 0).trans rfl; have hcz139_1 : wc.cell? ⟨gb300, 1, none⟩ = some (.int .i64 0) := (bC BK300.out 1).trans rfl; have hcz139_2 : wc.cell? ⟨gb300, 2, none⟩ = some (.string (⟨#[]⟩ : ByteArray)) := (bC BK300.out 2).trans rfl; have hfz139_0 := bF BK300.out 0; have hfz139_1 := bF BK300.out 1; have hfz139_2 := bF BK300.out 2)))
    refine bodyPost_ret (results_ct rfl _ _ gb300 34 #[.int .i64 a1_0, .int .i64 t332, .string (⟨#[]⟩ : ByteArray)] (0, 0) _ rfl (by (with_reducible repeat (first | apply bN | apply bD | apply bA)); refine blk_put (cs := #[.int .i64 a1_0, .int .i64 t332, .string (⟨#[]⟩ : ByteArray)]) ?_ 2 _ rfl; (with_reducible repeat (first | apply bN | apply bD | apply bA)); refine blk_put (cs := #[.int .i64 a1_0, .int .i64 0, .string (⟨#[]⟩ : ByteArray)]) ?_ 1 _ rfl; (with_reducible repeat (first | apply bN | apply bD | apply bA)); refine blk_put (cs := #[.int .i64 0, .int .i64 0, .string (⟨#[]⟩ : ByteArray)]) ?_ 0 _ rfl; (with_reducible repeat (first | apply bN | apply bD | apply bA)); exact BK300.out) Try.underlying34 rfl (by kernel_rfl)) rfl ?_
    exact ⟨by first | rfl | (simp [errW_none, errW_some] <;> rfl) | (simp [*, errW_none, errW_some] <;> rfl), by repeat (first | (with_reducible first | exact HB.out | apply wA | apply wN | apply wD | refine wS ?_ GE298.out | refine wS ?_ GE299.out | refine wS ?_ GE300.out) | exact HB.out)⟩
  rw [if_neg c132] at H
  have c132b0 : (a0 == 9) = false := beq_eq_false_iff_ne.mpr c132
  have c132b1 : (a0 != 9) = true := bne_iff_ne.mpr c132
  by_cases c140 : a0 = 10
  · rw [if_pos c140] at H
    have c140b0 : (a0 == 10) = true := beq_iff_eq.mpr c140
    have c140b1 : (a0 != 10) = false := bne_eq_false_iff_eq.mpr c140
    clear c140
    replace H := Option.bind_eq_some_iff.mp H
    obtain ⟨t333, A1410, H⟩ := H
    replace H : (some (a1_0, t333, (⟨#[]⟩ : ByteArray), (⟨#[]⟩ : ByteArray))) = some (r1, r2, r3, r4) := H
    have A141 := mk0 A1410
    clear A1410
    simp only [Option.some.injEq, Prod.mk.injEq] at H
    obtain ⟨rfl, rfl, rfl, rfl⟩ := H
    have hnb142 := NB298_299.out
    have hnc142 := NB299_298.out
    have hnb143 := NB298_300.out
    have hnc143 := NB300_298.out
    have hcz144_0 : wc.cell? ⟨gb298, 0, none⟩ = some (.int .i64 a1_0) := (bC BK298.out 0).trans rfl
    have hcz144_1 : wc.cell? ⟨gb298, 1, none⟩ = some (.int .i64 a1_1) := (bC BK298.out 1).trans rfl
    have hcz144_2 : wc.cell? ⟨gb298, 2, none⟩ = some (.string a1_2) := (bC BK298.out 2).trans rfl
    have hfz144_0 := bF BK298.out 0
    have hfz144_1 := bF BK298.out 1
    have hfz144_2 := bF BK298.out 2
    have hnb145 := NB299_300.out
    have hnc145 := NB300_299.out
    have hcz146_0 : wc.cell? ⟨gb299, 0, none⟩ = some (.int .i64 a2_0) := (bC BK299.out 0).trans rfl
    have hcz146_1 : wc.cell? ⟨gb299, 1, none⟩ = some (.int .i64 a2_1) := (bC BK299.out 1).trans rfl
    have hcz146_2 : wc.cell? ⟨gb299, 2, none⟩ = some (.string a2_2) := (bC BK299.out 2).trans rfl
    have hfz146_0 := bF BK299.out 0
    have hfz146_1 := bF BK299.out 1
    have hfz146_2 := bF BK299.out 2
    go_wp2_with (first | (go_at_call 60; (with_reducible refine (impl_into.calls kj3 (IntKind.u64.wrap ((IntKind.u64.wrap (a1_1)) - (IntKind.u64.wrap (a2_1)))) a1_0 t333 _ A141.out).mono ?_); rintro e w' ⟨rfl, ⟨nd, rfl⟩⟩; (try first | exact ⟨rfl, _, World.drewN_drewN _ _ _⟩ | exact ⟨rfl, _, Eq.trans (World.drewN_drewN _ _ _) (congrArg (World.drewN _) (Nat.add_assoc _ _ _))⟩); have hcz147_0 : wc.cell? ⟨gb300, 0, none⟩ = some (.int .i64 0) := (bC BK300.out 0).trans rfl; have hcz147_1 : wc.cell? ⟨gb300, 1, none⟩ = some (.int .i64 0) := (bC BK300.out 1).trans rfl; have hcz147_2 : wc.cell? ⟨gb300, 2, none⟩ = some (.string (⟨#[]⟩ : ByteArray)) := (bC BK300.out 2).trans rfl; have hfz147_0 := bF BK300.out 0; have hfz147_1 := bF BK300.out 1; have hfz147_2 := bF BK300.out 2))
    repeat (go_quiet (first | (go_at_call 60; (with_reducible refine (impl_into.calls kj3 (IntKind.u64.wrap ((IntKind.u64.wrap (a1_1)) - (IntKind.u64.wrap (a2_1)))) a1_0 t333 _ A141.out).mono ?_); rintro e w' ⟨rfl, ⟨nd, rfl⟩⟩; (try first | exact ⟨rfl, _, World.drewN_drewN _ _ _⟩ | exact ⟨rfl, _, Eq.trans (World.drewN_drewN _ _ _) (congrArg (World.drewN _) (Nat.add_assoc _ _ _))⟩); have hcz147_0 : wc.cell? ⟨gb300, 0, none⟩ = some (.int .i64 0) := (bC BK300.out 0).trans rfl; have hcz147_1 : wc.cell? ⟨gb300, 1, none⟩ = some (.int .i64 0) := (bC BK300.out 1).trans rfl; have hcz147_2 : wc.cell? ⟨gb300, 2, none⟩ = some (.string (⟨#[]⟩ : ByteArray)) := (bC BK300.out 2).trans rfl; have hfz147_0 := bF BK300.out 0; have hfz147_1 := bF BK300.out 1; have hfz147_2 := bF BK300.out 2)); try go_wp2_with (first | (go_at_call 60; (with_reducible refine (impl_into.calls kj3 (IntKind.u64.wrap ((IntKind.u64.wrap (a1_1)) - (IntKind.u64.wrap (a2_1)))) a1_0 t333 _ A141.out).mono ?_); rintro e w' ⟨rfl, ⟨nd, rfl⟩⟩; (try first | exact ⟨rfl, _, World.drewN_drewN _ _ _⟩ | exact ⟨rfl, _, Eq.trans (World.drewN_drewN _ _ _) (congrArg (World.drewN _) (Nat.add_assoc _ _ _))⟩); have hcz147_0 : wc.cell? ⟨gb300, 0, none⟩ = some (.int .i64 0) := (bC BK300.out 0).trans rfl; have hcz147_1 : wc.cell? ⟨gb300, 1, none⟩ = some (.int .i64 0) := (bC BK300.out 1).trans rfl; have hcz147_2 : wc.cell? ⟨gb300, 2, none⟩ = some (.string (⟨#[]⟩ : ByteArray)) := (bC BK300.out 2).trans rfl; have hfz147_0 := bF BK300.out 0; have hfz147_1 := bF BK300.out 1; have hfz147_2 := bF BK300.out 2)))
    refine bodyPost_ret (results_ct rfl _ _ gb300 34 #[.int .i64 a1_0, .int .i64 t333, .string (⟨#[]⟩ : ByteArray)] (0, 0) _ rfl (by (with_reducible repeat (first | apply bN | apply bD | apply bA)); refine blk_put (cs := #[.int .i64 a1_0, .int .i64 t333, .string (⟨#[]⟩ : ByteArray)]) ?_ 2 _ rfl; (with_reducible repeat (first | apply bN | apply bD | apply bA)); refine blk_put (cs := #[.int .i64 a1_0, .int .i64 0, .string (⟨#[]⟩ : ByteArray)]) ?_ 1 _ rfl; (with_reducible repeat (first | apply bN | apply bD | apply bA)); refine blk_put (cs := #[.int .i64 0, .int .i64 0, .string (⟨#[]⟩ : ByteArray)]) ?_ 0 _ rfl; (with_reducible repeat (first | apply bN | apply bD | apply bA)); exact BK300.out) Try.underlying34 rfl (by kernel_rfl)) rfl ?_
    exact ⟨by first | rfl | (simp [errW_none, errW_some] <;> rfl) | (simp [*, errW_none, errW_some] <;> rfl), by repeat (first | (with_reducible first | exact HB.out | apply wA | apply wN | apply wD | refine wS ?_ GE298.out | refine wS ?_ GE299.out | refine wS ?_ GE300.out) | exact HB.out)⟩
  rw [if_neg c140] at H
  have c140b0 : (a0 == 10) = false := beq_eq_false_iff_ne.mpr c140
  have c140b1 : (a0 != 10) = true := bne_iff_ne.mpr c140
  by_cases c148 : a0 = 13
  · rw [if_pos c148] at H
    have c148b0 : (a0 == 13) = true := beq_iff_eq.mpr c148
    have c148b1 : (a0 != 13) = false := bne_eq_false_iff_eq.mpr c148
    clear c148
    replace H := Option.bind_eq_some_iff.mp H
    obtain ⟨t334, A1490, H⟩ := H
    replace H : (some (a1_0, t334, (⟨#[]⟩ : ByteArray), (⟨#[]⟩ : ByteArray))) = some (r1, r2, r3, r4) := H
    have A149 := mk0 A1490
    clear A1490
    simp only [Option.some.injEq, Prod.mk.injEq] at H
    obtain ⟨rfl, rfl, rfl, rfl⟩ := H
    have hnb150 := NB298_299.out
    have hnc150 := NB299_298.out
    have hnb151 := NB298_300.out
    have hnc151 := NB300_298.out
    have hcz152_0 : wc.cell? ⟨gb298, 0, none⟩ = some (.int .i64 a1_0) := (bC BK298.out 0).trans rfl
    have hcz152_1 : wc.cell? ⟨gb298, 1, none⟩ = some (.int .i64 a1_1) := (bC BK298.out 1).trans rfl
    have hcz152_2 : wc.cell? ⟨gb298, 2, none⟩ = some (.string a1_2) := (bC BK298.out 2).trans rfl
    have hfz152_0 := bF BK298.out 0
    have hfz152_1 := bF BK298.out 1
    have hfz152_2 := bF BK298.out 2
    have hnb153 := NB299_300.out
    have hnc153 := NB300_299.out
    have hcz154_0 : wc.cell? ⟨gb299, 0, none⟩ = some (.int .i64 a2_0) := (bC BK299.out 0).trans rfl
    have hcz154_1 : wc.cell? ⟨gb299, 1, none⟩ = some (.int .i64 a2_1) := (bC BK299.out 1).trans rfl
    have hcz154_2 : wc.cell? ⟨gb299, 2, none⟩ = some (.string a2_2) := (bC BK299.out 2).trans rfl
    have hfz154_0 := bF BK299.out 0
    have hfz154_1 := bF BK299.out 1
    have hfz154_2 := bF BK299.out 2
    go_wp2_with (first | (go_at_call 60; (with_reducible refine (impl_into.calls kj3 (IntKind.u64.wrap ((IntKind.u64.wrap (a1_1)) * (IntKind.u64.wrap (a2_1)))) a1_0 t334 _ A149.out).mono ?_); rintro e w' ⟨rfl, ⟨nd, rfl⟩⟩; (try first | exact ⟨rfl, _, World.drewN_drewN _ _ _⟩ | exact ⟨rfl, _, Eq.trans (World.drewN_drewN _ _ _) (congrArg (World.drewN _) (Nat.add_assoc _ _ _))⟩); have hcz155_0 : wc.cell? ⟨gb300, 0, none⟩ = some (.int .i64 0) := (bC BK300.out 0).trans rfl; have hcz155_1 : wc.cell? ⟨gb300, 1, none⟩ = some (.int .i64 0) := (bC BK300.out 1).trans rfl; have hcz155_2 : wc.cell? ⟨gb300, 2, none⟩ = some (.string (⟨#[]⟩ : ByteArray)) := (bC BK300.out 2).trans rfl; have hfz155_0 := bF BK300.out 0; have hfz155_1 := bF BK300.out 1; have hfz155_2 := bF BK300.out 2))
    repeat (go_quiet (first | (go_at_call 60; (with_reducible refine (impl_into.calls kj3 (IntKind.u64.wrap ((IntKind.u64.wrap (a1_1)) * (IntKind.u64.wrap (a2_1)))) a1_0 t334 _ A149.out).mono ?_); rintro e w' ⟨rfl, ⟨nd, rfl⟩⟩; (try first | exact ⟨rfl, _, World.drewN_drewN _ _ _⟩ | exact ⟨rfl, _, Eq.trans (World.drewN_drewN _ _ _) (congrArg (World.drewN _) (Nat.add_assoc _ _ _))⟩); have hcz155_0 : wc.cell? ⟨gb300, 0, none⟩ = some (.int .i64 0) := (bC BK300.out 0).trans rfl; have hcz155_1 : wc.cell? ⟨gb300, 1, none⟩ = some (.int .i64 0) := (bC BK300.out 1).trans rfl; have hcz155_2 : wc.cell? ⟨gb300, 2, none⟩ = some (.string (⟨#[]⟩ : ByteArray)) := (bC BK300.out 2).trans rfl; have hfz155_0 := bF BK300.out 0; have hfz155_1 := bF BK300.out 1; have hfz155_2 := bF BK300.out 2)); try go_wp2_with (first | (go_at_call 60; (with_reducible refine (impl_into.calls kj3 (IntKind.u64.wrap ((IntKind.u64.wrap (a1_1)) * (IntKind.u64.wrap (a2_1)))) a1_0 t334 _ A149.out).mono ?_); rintro e w' ⟨rfl, ⟨nd, rfl⟩⟩; (try first | exact ⟨rfl, _, World.drewN_drewN _ _ _⟩ | exact ⟨rfl, _, Eq.trans (World.drewN_drewN _ _ _) (congrArg (World.drewN _) (Nat.add_assoc _ _ _))⟩); have hcz155_0 : wc.cell? ⟨gb300, 0, none⟩ = some (.int .i64 0) := (bC BK300.out 0).trans rfl; have hcz155_1 : wc.cell? ⟨gb300, 1, none⟩ = some (.int .i64 0) := (bC BK300.out 1).trans rfl; have hcz155_2 : wc.cell? ⟨gb300, 2, none⟩ = some (.string (⟨#[]⟩ : ByteArray)) := (bC BK300.out 2).trans rfl; have hfz155_0 := bF BK300.out 0; have hfz155_1 := bF BK300.out 1; have hfz155_2 := bF BK300.out 2)))
    refine bodyPost_ret (results_ct rfl _ _ gb300 34 #[.int .i64 a1_0, .int .i64 t334, .string (⟨#[]⟩ : ByteArray)] (0, 0) _ rfl (by (with_reducible repeat (first | apply bN | apply bD | apply bA)); refine blk_put (cs := #[.int .i64 a1_0, .int .i64 t334, .string (⟨#[]⟩ : ByteArray)]) ?_ 2 _ rfl; (with_reducible repeat (first | apply bN | apply bD | apply bA)); refine blk_put (cs := #[.int .i64 a1_0, .int .i64 0, .string (⟨#[]⟩ : ByteArray)]) ?_ 1 _ rfl; (with_reducible repeat (first | apply bN | apply bD | apply bA)); refine blk_put (cs := #[.int .i64 0, .int .i64 0, .string (⟨#[]⟩ : ByteArray)]) ?_ 0 _ rfl; (with_reducible repeat (first | apply bN | apply bD | apply bA)); exact BK300.out) Try.underlying34 rfl (by kernel_rfl)) rfl ?_
    exact ⟨by first | rfl | (simp [errW_none, errW_some] <;> rfl) | (simp [*, errW_none, errW_some] <;> rfl), by repeat (first | (with_reducible first | exact HB.out | apply wA | apply wN | apply wD | refine wS ?_ GE298.out | refine wS ?_ GE299.out | refine wS ?_ GE300.out) | exact HB.out)⟩
  rw [if_neg c148] at H
  have c148b0 : (a0 == 13) = false := beq_eq_false_iff_ne.mpr c148
  have c148b1 : (a0 != 13) = true := bne_iff_ne.mpr c148
  by_cases c156 : a0 = 11
  · rw [if_pos c156] at H
    have c156b0 : (a0 == 11) = true := beq_iff_eq.mpr c156
    have c156b1 : (a0 != 11) = false := bne_eq_false_iff_eq.mpr c156
    clear c156
    replace H := Option.bind_eq_some_iff.mp H
    obtain ⟨t335, A1570, H⟩ := H
    replace H : (some (a1_0, t335, (⟨#[]⟩ : ByteArray), (⟨#[]⟩ : ByteArray))) = some (r1, r2, r3, r4) := H
    have A157 := mk0 A1570
    clear A1570
    simp only [Option.some.injEq, Prod.mk.injEq] at H
    obtain ⟨rfl, rfl, rfl, rfl⟩ := H
    have hnb158 := NB298_299.out
    have hnc158 := NB299_298.out
    have hnb159 := NB298_300.out
    have hnc159 := NB300_298.out
    have hcz160_0 : wc.cell? ⟨gb298, 0, none⟩ = some (.int .i64 a1_0) := (bC BK298.out 0).trans rfl
    have hcz160_1 : wc.cell? ⟨gb298, 1, none⟩ = some (.int .i64 a1_1) := (bC BK298.out 1).trans rfl
    have hcz160_2 : wc.cell? ⟨gb298, 2, none⟩ = some (.string a1_2) := (bC BK298.out 2).trans rfl
    have hfz160_0 := bF BK298.out 0
    have hfz160_1 := bF BK298.out 1
    have hfz160_2 := bF BK298.out 2
    have hnb161 := NB299_300.out
    have hnc161 := NB300_299.out
    have hcz162_0 : wc.cell? ⟨gb299, 0, none⟩ = some (.int .i64 a2_0) := (bC BK299.out 0).trans rfl
    have hcz162_1 : wc.cell? ⟨gb299, 1, none⟩ = some (.int .i64 a2_1) := (bC BK299.out 1).trans rfl
    have hcz162_2 : wc.cell? ⟨gb299, 2, none⟩ = some (.string a2_2) := (bC BK299.out 2).trans rfl
    have hfz162_0 := bF BK299.out 0
    have hfz162_1 := bF BK299.out 1
    have hfz162_2 := bF BK299.out 2
    go_wp2_with (first | (go_at_call 60; (with_reducible refine (impl_into.calls kj3 (Go.bits .or .u64 (IntKind.u64.wrap (a1_1)) (IntKind.u64.wrap (a2_1))) a1_0 t335 _ A157.out).mono ?_); rintro e w' ⟨rfl, ⟨nd, rfl⟩⟩; (try first | exact ⟨rfl, _, World.drewN_drewN _ _ _⟩ | exact ⟨rfl, _, Eq.trans (World.drewN_drewN _ _ _) (congrArg (World.drewN _) (Nat.add_assoc _ _ _))⟩); have hcz163_0 : wc.cell? ⟨gb300, 0, none⟩ = some (.int .i64 0) := (bC BK300.out 0).trans rfl; have hcz163_1 : wc.cell? ⟨gb300, 1, none⟩ = some (.int .i64 0) := (bC BK300.out 1).trans rfl; have hcz163_2 : wc.cell? ⟨gb300, 2, none⟩ = some (.string (⟨#[]⟩ : ByteArray)) := (bC BK300.out 2).trans rfl; have hfz163_0 := bF BK300.out 0; have hfz163_1 := bF BK300.out 1; have hfz163_2 := bF BK300.out 2))
    repeat (go_quiet (first | (go_at_call 60; (with_reducible refine (impl_into.calls kj3 (Go.bits .or .u64 (IntKind.u64.wrap (a1_1)) (IntKind.u64.wrap (a2_1))) a1_0 t335 _ A157.out).mono ?_); rintro e w' ⟨rfl, ⟨nd, rfl⟩⟩; (try first | exact ⟨rfl, _, World.drewN_drewN _ _ _⟩ | exact ⟨rfl, _, Eq.trans (World.drewN_drewN _ _ _) (congrArg (World.drewN _) (Nat.add_assoc _ _ _))⟩); have hcz163_0 : wc.cell? ⟨gb300, 0, none⟩ = some (.int .i64 0) := (bC BK300.out 0).trans rfl; have hcz163_1 : wc.cell? ⟨gb300, 1, none⟩ = some (.int .i64 0) := (bC BK300.out 1).trans rfl; have hcz163_2 : wc.cell? ⟨gb300, 2, none⟩ = some (.string (⟨#[]⟩ : ByteArray)) := (bC BK300.out 2).trans rfl; have hfz163_0 := bF BK300.out 0; have hfz163_1 := bF BK300.out 1; have hfz163_2 := bF BK300.out 2)); try go_wp2_with (first | (go_at_call 60; (with_reducible refine (impl_into.calls kj3 (Go.bits .or .u64 (IntKind.u64.wrap (a1_1)) (IntKind.u64.wrap (a2_1))) a1_0 t335 _ A157.out).mono ?_); rintro e w' ⟨rfl, ⟨nd, rfl⟩⟩; (try first | exact ⟨rfl, _, World.drewN_drewN _ _ _⟩ | exact ⟨rfl, _, Eq.trans (World.drewN_drewN _ _ _) (congrArg (World.drewN _) (Nat.add_assoc _ _ _))⟩); have hcz163_0 : wc.cell? ⟨gb300, 0, none⟩ = some (.int .i64 0) := (bC BK300.out 0).trans rfl; have hcz163_1 : wc.cell? ⟨gb300, 1, none⟩ = some (.int .i64 0) := (bC BK300.out 1).trans rfl; have hcz163_2 : wc.cell? ⟨gb300, 2, none⟩ = some (.string (⟨#[]⟩ : ByteArray)) := (bC BK300.out 2).trans rfl; have hfz163_0 := bF BK300.out 0; have hfz163_1 := bF BK300.out 1; have hfz163_2 := bF BK300.out 2)))
    refine bodyPost_ret (results_ct rfl _ _ gb300 34 #[.int .i64 a1_0, .int .i64 t335, .string (⟨#[]⟩ : ByteArray)] (0, 0) _ rfl (by (with_reducible repeat (first | apply bN | apply bD | apply bA)); refine blk_put (cs := #[.int .i64 a1_0, .int .i64 t335, .string (⟨#[]⟩ : ByteArray)]) ?_ 2 _ rfl; (with_reducible repeat (first | apply bN | apply bD | apply bA)); refine blk_put (cs := #[.int .i64 a1_0, .int .i64 0, .string (⟨#[]⟩ : ByteArray)]) ?_ 1 _ rfl; (with_reducible repeat (first | apply bN | apply bD | apply bA)); refine blk_put (cs := #[.int .i64 0, .int .i64 0, .string (⟨#[]⟩ : ByteArray)]) ?_ 0 _ rfl; (with_reducible repeat (first | apply bN | apply bD | apply bA)); exact BK300.out) Try.underlying34 rfl (by kernel_rfl)) rfl ?_
    exact ⟨by first | rfl | (simp [errW_none, errW_some] <;> rfl) | (simp [*, errW_none, errW_some] <;> rfl), by repeat (first | (with_reducible first | exact HB.out | apply wA | apply wN | apply wD | refine wS ?_ GE298.out | refine wS ?_ GE299.out | refine wS ?_ GE300.out) | exact HB.out)⟩
  rw [if_neg c156] at H
  have c156b0 : (a0 == 11) = false := beq_eq_false_iff_ne.mpr c156
  have c156b1 : (a0 != 11) = true := bne_iff_ne.mpr c156
  by_cases c164 : a0 = 12
  · rw [if_pos c164] at H
    have c164b0 : (a0 == 12) = true := beq_iff_eq.mpr c164
    have c164b1 : (a0 != 12) = false := bne_eq_false_iff_eq.mpr c164
    clear c164
    replace H := Option.bind_eq_some_iff.mp H
    obtain ⟨t336, A1650, H⟩ := H
    replace H : (some (a1_0, t336, (⟨#[]⟩ : ByteArray), (⟨#[]⟩ : ByteArray))) = some (r1, r2, r3, r4) := H
    have A165 := mk0 A1650
    clear A1650
    simp only [Option.some.injEq, Prod.mk.injEq] at H
    obtain ⟨rfl, rfl, rfl, rfl⟩ := H
    have hnb166 := NB298_299.out
    have hnc166 := NB299_298.out
    have hnb167 := NB298_300.out
    have hnc167 := NB300_298.out
    have hcz168_0 : wc.cell? ⟨gb298, 0, none⟩ = some (.int .i64 a1_0) := (bC BK298.out 0).trans rfl
    have hcz168_1 : wc.cell? ⟨gb298, 1, none⟩ = some (.int .i64 a1_1) := (bC BK298.out 1).trans rfl
    have hcz168_2 : wc.cell? ⟨gb298, 2, none⟩ = some (.string a1_2) := (bC BK298.out 2).trans rfl
    have hfz168_0 := bF BK298.out 0
    have hfz168_1 := bF BK298.out 1
    have hfz168_2 := bF BK298.out 2
    have hnb169 := NB299_300.out
    have hnc169 := NB300_299.out
    have hcz170_0 : wc.cell? ⟨gb299, 0, none⟩ = some (.int .i64 a2_0) := (bC BK299.out 0).trans rfl
    have hcz170_1 : wc.cell? ⟨gb299, 1, none⟩ = some (.int .i64 a2_1) := (bC BK299.out 1).trans rfl
    have hcz170_2 : wc.cell? ⟨gb299, 2, none⟩ = some (.string a2_2) := (bC BK299.out 2).trans rfl
    have hfz170_0 := bF BK299.out 0
    have hfz170_1 := bF BK299.out 1
    have hfz170_2 := bF BK299.out 2
    go_wp2_with (first | (go_at_call 60; (with_reducible refine (impl_into.calls kj3 (Go.bits .xor .u64 (IntKind.u64.wrap (a1_1)) (IntKind.u64.wrap (a2_1))) a1_0 t336 _ A165.out).mono ?_); rintro e w' ⟨rfl, ⟨nd, rfl⟩⟩; (try first | exact ⟨rfl, _, World.drewN_drewN _ _ _⟩ | exact ⟨rfl, _, Eq.trans (World.drewN_drewN _ _ _) (congrArg (World.drewN _) (Nat.add_assoc _ _ _))⟩); have hcz171_0 : wc.cell? ⟨gb300, 0, none⟩ = some (.int .i64 0) := (bC BK300.out 0).trans rfl; have hcz171_1 : wc.cell? ⟨gb300, 1, none⟩ = some (.int .i64 0) := (bC BK300.out 1).trans rfl; have hcz171_2 : wc.cell? ⟨gb300, 2, none⟩ = some (.string (⟨#[]⟩ : ByteArray)) := (bC BK300.out 2).trans rfl; have hfz171_0 := bF BK300.out 0; have hfz171_1 := bF BK300.out 1; have hfz171_2 := bF BK300.out 2))
    repeat (go_quiet (first | (go_at_call 60; (with_reducible refine (impl_into.calls kj3 (Go.bits .xor .u64 (IntKind.u64.wrap (a1_1)) (IntKind.u64.wrap (a2_1))) a1_0 t336 _ A165.out).mono ?_); rintro e w' ⟨rfl, ⟨nd, rfl⟩⟩; (try first | exact ⟨rfl, _, World.drewN_drewN _ _ _⟩ | exact ⟨rfl, _, Eq.trans (World.drewN_drewN _ _ _) (congrArg (World.drewN _) (Nat.add_assoc _ _ _))⟩); have hcz171_0 : wc.cell? ⟨gb300, 0, none⟩ = some (.int .i64 0) := (bC BK300.out 0).trans rfl; have hcz171_1 : wc.cell? ⟨gb300, 1, none⟩ = some (.int .i64 0) := (bC BK300.out 1).trans rfl; have hcz171_2 : wc.cell? ⟨gb300, 2, none⟩ = some (.string (⟨#[]⟩ : ByteArray)) := (bC BK300.out 2).trans rfl; have hfz171_0 := bF BK300.out 0; have hfz171_1 := bF BK300.out 1; have hfz171_2 := bF BK300.out 2)); try go_wp2_with (first | (go_at_call 60; (with_reducible refine (impl_into.calls kj3 (Go.bits .xor .u64 (IntKind.u64.wrap (a1_1)) (IntKind.u64.wrap (a2_1))) a1_0 t336 _ A165.out).mono ?_); rintro e w' ⟨rfl, ⟨nd, rfl⟩⟩; (try first | exact ⟨rfl, _, World.drewN_drewN _ _ _⟩ | exact ⟨rfl, _, Eq.trans (World.drewN_drewN _ _ _) (congrArg (World.drewN _) (Nat.add_assoc _ _ _))⟩); have hcz171_0 : wc.cell? ⟨gb300, 0, none⟩ = some (.int .i64 0) := (bC BK300.out 0).trans rfl; have hcz171_1 : wc.cell? ⟨gb300, 1, none⟩ = some (.int .i64 0) := (bC BK300.out 1).trans rfl; have hcz171_2 : wc.cell? ⟨gb300, 2, none⟩ = some (.string (⟨#[]⟩ : ByteArray)) := (bC BK300.out 2).trans rfl; have hfz171_0 := bF BK300.out 0; have hfz171_1 := bF BK300.out 1; have hfz171_2 := bF BK300.out 2)))
    refine bodyPost_ret (results_ct rfl _ _ gb300 34 #[.int .i64 a1_0, .int .i64 t336, .string (⟨#[]⟩ : ByteArray)] (0, 0) _ rfl (by (with_reducible repeat (first | apply bN | apply bD | apply bA)); refine blk_put (cs := #[.int .i64 a1_0, .int .i64 t336, .string (⟨#[]⟩ : ByteArray)]) ?_ 2 _ rfl; (with_reducible repeat (first | apply bN | apply bD | apply bA)); refine blk_put (cs := #[.int .i64 a1_0, .int .i64 0, .string (⟨#[]⟩ : ByteArray)]) ?_ 1 _ rfl; (with_reducible repeat (first | apply bN | apply bD | apply bA)); refine blk_put (cs := #[.int .i64 0, .int .i64 0, .string (⟨#[]⟩ : ByteArray)]) ?_ 0 _ rfl; (with_reducible repeat (first | apply bN | apply bD | apply bA)); exact BK300.out) Try.underlying34 rfl (by kernel_rfl)) rfl ?_
    exact ⟨by first | rfl | (simp [errW_none, errW_some] <;> rfl) | (simp [*, errW_none, errW_some] <;> rfl), by repeat (first | (with_reducible first | exact HB.out | apply wA | apply wN | apply wD | refine wS ?_ GE298.out | refine wS ?_ GE299.out | refine wS ?_ GE300.out) | exact HB.out)⟩
  rw [if_neg c164] at H
  have c164b0 : (a0 == 12) = false := beq_eq_false_iff_ne.mpr c164
  have c164b1 : (a0 != 12) = true := bne_iff_ne.mpr c164
  by_cases c172 : a0 = 16
  · rw [if_pos c172] at H
    have c172b0 : (a0 == 16) = true := beq_iff_eq.mpr c172
    have c172b1 : (a0 != 16) = false := bne_eq_false_iff_eq.mpr c172
    clear c172
    replace H := Option.bind_eq_some_iff.mp H
    obtain ⟨t337, A1730, H⟩ := H
    replace H : (some (a1_0, t337, (⟨#[]⟩ : ByteArray), (⟨#[]⟩ : ByteArray))) = some (r1, r2, r3, r4) := H
    have A173 := mk0 A1730
    clear A1730
    simp only [Option.some.injEq, Prod.mk.injEq] at H
    obtain ⟨rfl, rfl, rfl, rfl⟩ := H
    have hnb174 := NB298_299.out
    have hnc174 := NB299_298.out
    have hnb175 := NB298_300.out
    have hnc175 := NB300_298.out
    have hcz176_0 : wc.cell? ⟨gb298, 0, none⟩ = some (.int .i64 a1_0) := (bC BK298.out 0).trans rfl
    have hcz176_1 : wc.cell? ⟨gb298, 1, none⟩ = some (.int .i64 a1_1) := (bC BK298.out 1).trans rfl
    have hcz176_2 : wc.cell? ⟨gb298, 2, none⟩ = some (.string a1_2) := (bC BK298.out 2).trans rfl
    have hfz176_0 := bF BK298.out 0
    have hfz176_1 := bF BK298.out 1
    have hfz176_2 := bF BK298.out 2
    have hnb177 := NB299_300.out
    have hnc177 := NB300_299.out
    have hcz178_0 : wc.cell? ⟨gb299, 0, none⟩ = some (.int .i64 a2_0) := (bC BK299.out 0).trans rfl
    have hcz178_1 : wc.cell? ⟨gb299, 1, none⟩ = some (.int .i64 a2_1) := (bC BK299.out 1).trans rfl
    have hcz178_2 : wc.cell? ⟨gb299, 2, none⟩ = some (.string a2_2) := (bC BK299.out 2).trans rfl
    have hfz178_0 := bF BK299.out 0
    have hfz178_1 := bF BK299.out 1
    have hfz178_2 := bF BK299.out 2
    go_wp2_with (first | (go_at_call 60; (with_reducible refine (impl_into.calls kj3 (Go.bits .and .u64 (IntKind.u64.wrap (a1_1)) (IntKind.u64.wrap (a2_1))) a1_0 t337 _ A173.out).mono ?_); rintro e w' ⟨rfl, ⟨nd, rfl⟩⟩; (try first | exact ⟨rfl, _, World.drewN_drewN _ _ _⟩ | exact ⟨rfl, _, Eq.trans (World.drewN_drewN _ _ _) (congrArg (World.drewN _) (Nat.add_assoc _ _ _))⟩); have hcz179_0 : wc.cell? ⟨gb300, 0, none⟩ = some (.int .i64 0) := (bC BK300.out 0).trans rfl; have hcz179_1 : wc.cell? ⟨gb300, 1, none⟩ = some (.int .i64 0) := (bC BK300.out 1).trans rfl; have hcz179_2 : wc.cell? ⟨gb300, 2, none⟩ = some (.string (⟨#[]⟩ : ByteArray)) := (bC BK300.out 2).trans rfl; have hfz179_0 := bF BK300.out 0; have hfz179_1 := bF BK300.out 1; have hfz179_2 := bF BK300.out 2))
    repeat (go_quiet (first | (go_at_call 60; (with_reducible refine (impl_into.calls kj3 (Go.bits .and .u64 (IntKind.u64.wrap (a1_1)) (IntKind.u64.wrap (a2_1))) a1_0 t337 _ A173.out).mono ?_); rintro e w' ⟨rfl, ⟨nd, rfl⟩⟩; (try first | exact ⟨rfl, _, World.drewN_drewN _ _ _⟩ | exact ⟨rfl, _, Eq.trans (World.drewN_drewN _ _ _) (congrArg (World.drewN _) (Nat.add_assoc _ _ _))⟩); have hcz179_0 : wc.cell? ⟨gb300, 0, none⟩ = some (.int .i64 0) := (bC BK300.out 0).trans rfl; have hcz179_1 : wc.cell? ⟨gb300, 1, none⟩ = some (.int .i64 0) := (bC BK300.out 1).trans rfl; have hcz179_2 : wc.cell? ⟨gb300, 2, none⟩ = some (.string (⟨#[]⟩ : ByteArray)) := (bC BK300.out 2).trans rfl; have hfz179_0 := bF BK300.out 0; have hfz179_1 := bF BK300.out 1; have hfz179_2 := bF BK300.out 2)); try go_wp2_with (first | (go_at_call 60; (with_reducible refine (impl_into.calls kj3 (Go.bits .and .u64 (IntKind.u64.wrap (a1_1)) (IntKind.u64.wrap (a2_1))) a1_0 t337 _ A173.out).mono ?_); rintro e w' ⟨rfl, ⟨nd, rfl⟩⟩; (try first | exact ⟨rfl, _, World.drewN_drewN _ _ _⟩ | exact ⟨rfl, _, Eq.trans (World.drewN_drewN _ _ _) (congrArg (World.drewN _) (Nat.add_assoc _ _ _))⟩); have hcz179_0 : wc.cell? ⟨gb300, 0, none⟩ = some (.int .i64 0) := (bC BK300.out 0).trans rfl; have hcz179_1 : wc.cell? ⟨gb300, 1, none⟩ = some (.int .i64 0) := (bC BK300.out 1).trans rfl; have hcz179_2 : wc.cell? ⟨gb300, 2, none⟩ = some (.string (⟨#[]⟩ : ByteArray)) := (bC BK300.out 2).trans rfl; have hfz179_0 := bF BK300.out 0; have hfz179_1 := bF BK300.out 1; have hfz179_2 := bF BK300.out 2)))
    refine bodyPost_ret (results_ct rfl _ _ gb300 34 #[.int .i64 a1_0, .int .i64 t337, .string (⟨#[]⟩ : ByteArray)] (0, 0) _ rfl (by (with_reducible repeat (first | apply bN | apply bD | apply bA)); refine blk_put (cs := #[.int .i64 a1_0, .int .i64 t337, .string (⟨#[]⟩ : ByteArray)]) ?_ 2 _ rfl; (with_reducible repeat (first | apply bN | apply bD | apply bA)); refine blk_put (cs := #[.int .i64 a1_0, .int .i64 0, .string (⟨#[]⟩ : ByteArray)]) ?_ 1 _ rfl; (with_reducible repeat (first | apply bN | apply bD | apply bA)); refine blk_put (cs := #[.int .i64 0, .int .i64 0, .string (⟨#[]⟩ : ByteArray)]) ?_ 0 _ rfl; (with_reducible repeat (first | apply bN | apply bD | apply bA)); exact BK300.out) Try.underlying34 rfl (by kernel_rfl)) rfl ?_
    exact ⟨by first | rfl | (simp [errW_none, errW_some] <;> rfl) | (simp [*, errW_none, errW_some] <;> rfl), by repeat (first | (with_reducible first | exact HB.out | apply wA | apply wN | apply wD | refine wS ?_ GE298.out | refine wS ?_ GE299.out | refine wS ?_ GE300.out) | exact HB.out)⟩
  rw [if_neg c172] at H
  have c172b0 : (a0 == 16) = false := beq_eq_false_iff_ne.mpr c172
  have c172b1 : (a0 != 16) = true := bne_iff_ne.mpr c172
  have HC180 := mk0 H
  clear H
  have hnb181 := NB298_299.out
  have hnc181 := NB299_298.out
  have hnb182 := NB298_300.out
  have hnc182 := NB300_298.out
  have hcz183_0 : wc.cell? ⟨gb298, 0, none⟩ = some (.int .i64 a1_0) := (bC BK298.out 0).trans rfl
  have hcz183_1 : wc.cell? ⟨gb298, 1, none⟩ = some (.int .i64 a1_1) := (bC BK298.out 1).trans rfl
  have hcz183_2 : wc.cell? ⟨gb298, 2, none⟩ = some (.string a1_2) := (bC BK298.out 2).trans rfl
  have hfz183_0 := bF BK298.out 0
  have hfz183_1 := bF BK298.out 1
  have hfz183_2 := bF BK298.out 2
  have hnb184 := NB299_300.out
  have hnc184 := NB300_299.out
  have hcz185_0 : wc.cell? ⟨gb299, 0, none⟩ = some (.int .i64 a2_0) := (bC BK299.out 0).trans rfl
  have hcz185_1 : wc.cell? ⟨gb299, 1, none⟩ = some (.int .i64 a2_1) := (bC BK299.out 1).trans rfl
  have hcz185_2 : wc.cell? ⟨gb299, 2, none⟩ = some (.string a2_2) := (bC BK299.out 2).trans rfl
  have hfz185_0 := bF BK299.out 0
  have hfz185_1 := bF BK299.out 1
  have hfz185_2 := bF BK299.out 2
  go_upto_if 147 with (fail)
  repeat (go_quiet (fail); go_upto_if 147 with (fail))
  go_cut [147] (fun v147 wc => ∃ (kq : Nat) (x147_179 : Bool), v147 = .bool x147_179 ∧ Aside0 (impl_Binary.j1 kq a0 a1_0 (IntKind.u64.wrap (a2_1)) x147_179 a1_0 a1_1 a1_2 a2_0 a2_1 a2_2 = some (r1, r2, r3, r4)) ∧ Aside0 (kq ≤ kj3) ∧ Aside0 (wc.heap[gb298]? = some (.cells #[.int .i64 a1_0, .int .i64 a1_1, .string a1_2] 34 (0, 0))) ∧ Aside0 (wc.heap[gb299]? = some (.cells #[.int .i64 a2_0, .int .i64 a2_1, .string a2_2] 34 (0, 0))) ∧ Aside0 (wc.heap[gb300]? = some (.cells #[.int .i64 0, .int .i64 0, .string (⟨#[]⟩ : ByteArray)] 34 (0, 0))) ∧ Aside0 (Below w.heap.size w wc))
  case first =>
    have H := HC180.out
    clear HC180
    by_cases c186 : a0 = 14
    · rw [if_pos c186] at H
      have c186b0 : (a0 == 14) = true := beq_iff_eq.mpr c186
      have c186b1 : (a0 != 14) = false := bne_eq_false_iff_eq.mpr c186
      clear c186
      (first | rw [c186b0] | (simp only [i64_w, i32_w]; rw [c186b0]) | rw [c186b4] | rw [c186b3] | skip)
      have H' := mk0 H
      clear H
      go_wp2
      repeat (go_quiet (fail); try go_wp2)
      go_meet
      case rel => exact ⟨_, ((a0 == 14)), (by first | rfl | (simp; done) | (simp [*]; done)), H', ⟨by have := HJ3.out; first | omega | exact Nat.le_refl _⟩, ⟨by (with_reducible repeat (first | apply bN | apply bD | apply bA)); exact BK298.out⟩, ⟨by (with_reducible repeat (first | apply bN | apply bD | apply bA)); exact BK299.out⟩, ⟨by (with_reducible repeat (first | apply bN | apply bD | apply bA)); exact BK300.out⟩, ⟨by repeat (first | (with_reducible first | exact HB.out | apply wA | apply wN | apply wD | refine wS ?_ GE298.out | refine wS ?_ GE299.out | refine wS ?_ GE300.out) | exact HB.out)⟩⟩
    rw [if_neg c186] at H
    have c186b0 : (a0 == 14) = false := beq_eq_false_iff_ne.mpr c186
    have c186b1 : (a0 != 14) = true := bne_iff_ne.mpr c186
    (first | rw [c186b0] | (simp only [i64_w, i32_w]; rw [c186b0]) | rw [c186b4] | rw [c186b3] | skip)
    have H' := mk0 H
    clear H
    go_wp2
    repeat (go_quiet (fail); try go_wp2)
    go_meet
    case rel => exact ⟨_, ((a0 == 15)), (by first | rfl | (simp; done) | (simp [*]; done)), H', ⟨by have := HJ3.out; first | omega | exact Nat.le_refl _⟩, ⟨by (with_reducible repeat (first | apply bN | apply bD | apply bA)); exact BK298.out⟩, ⟨by (with_reducible repeat (first | apply bN | apply bD | apply bA)); exact BK299.out⟩, ⟨by (with_reducible repeat (first | apply bN | apply bD | apply bA)); exact BK300.out⟩, ⟨by repeat (first | (with_reducible first | exact HB.out | apply wA | apply wN | apply wD | refine wS ?_ GE298.out | refine wS ?_ GE299.out | refine wS ?_ GE300.out) | exact HB.out)⟩⟩
  clear HC180
  try clear c1
  try clear p2
  try clear c5
  try clear c6
  try clear c7
  try clear c8
  try clear c9
  try clear c10
  try clear c11
  try clear c12
  try clear c13
  try clear c14
  try clear c15
  try clear c16
  try clear c17
  try clear c18
  try clear c55
  try clear c55b0
  try clear c55b1
  try clear c57
  try clear c58
  try clear c60
  try clear c64
  try clear c64b0
  try clear c64b1
  try clear c66
  try clear c67
  try clear c69
  try clear c73
  try clear c73b0
  try clear c73b1
  try clear c76
  try clear c77
  try clear c79
  try clear c84
  try clear c84b0
  try clear c84b1
  try clear c87
  try clear c88
  try clear c90
  try clear c95
  try clear c95b0
  try clear c95b1
  try clear c98
  try clear c99
  try clear c101
  try clear c106
  try clear c106b0
  try clear c106b1
  try clear c109
  try clear c110
  try clear c112
  try clear c117
  try clear c117b0
  try clear c117b1
  try clear c118
  try clear c118b0
  try clear c118b1
  try clear c118b2
  try clear c119
  try clear c119b0
  try clear c119b1
  try clear c120
  try clear c121
  try clear c123
  try clear c126
  try clear c127
  try clear c129
  try clear c132
  try clear c132b0
  try clear c132b1
  try clear c134
  try clear c135
  try clear c137
  try clear c140
  try clear c140b0
  try clear c140b1
  try clear c142
  try clear c143
  try clear c145
  try clear c148
  try clear c148b0
  try clear c148b1
  try clear c150
  try clear c151
  try clear c153
  try clear c156
  try clear c156b0
  try clear c156b1
  try clear c158
  try clear c159
  try clear c161
  try clear c164
  try clear c164b0
  try clear c164b1
  try clear c166
  try clear c167
  try clear c169
  try clear c172
  try clear c172b0
  try clear c172b1
  try clear c174
  try clear c175
  try clear c177
  try clear c181
  try clear c182
  try clear c184
  try clear c186
  try clear c186b0
  try clear c186b1
  try clear hcz100_0
  try clear hcz100_1
  try clear hcz100_2
  try clear hcz102_0
  try clear hcz102_1
  try clear hcz102_2
  try clear hcz105_0
  try clear hcz105_1
  try clear hcz105_2
  try clear hcz111_0
  try clear hcz111_1
  try clear hcz111_2
  try clear hcz113_0
  try clear hcz113_1
  try clear hcz113_2
  try clear hcz116_0
  try clear hcz116_1
  try clear hcz116_2
  try clear hcz122_0
  try clear hcz122_1
  try clear hcz122_2
  try clear hcz124_0
  try clear hcz124_1
  try clear hcz124_2
  try clear hcz125_0
  try clear hcz125_1
  try clear hcz125_2
  try clear hcz128_0
  try clear hcz128_1
  try clear hcz128_2
  try clear hcz130_0
  try clear hcz130_1
  try clear hcz130_2
  try clear hcz131_0
  try clear hcz131_1
  try clear hcz131_2
  try clear hcz136_0
  try clear hcz136_1
  try clear hcz136_2
  try clear hcz138_0
  try clear hcz138_1
  try clear hcz138_2
  try clear hcz139_0
  try clear hcz139_1
  try clear hcz139_2
  try clear hcz144_0
  try clear hcz144_1
  try clear hcz144_2
  try clear hcz146_0
  try clear hcz146_1
  try clear hcz146_2
  try clear hcz147_0
  try clear hcz147_1
  try clear hcz147_2
  try clear hcz152_0
  try clear hcz152_1
  try clear hcz152_2
  try clear hcz154_0
  try clear hcz154_1
  try clear hcz154_2
  try clear hcz155_0
  try clear hcz155_1
  try clear hcz155_2
  try clear hcz160_0
  try clear hcz160_1
  try clear hcz160_2
  try clear hcz162_0
  try clear hcz162_1
  try clear hcz162_2
  try clear hcz163_0
  try clear hcz163_1
  try clear hcz163_2
  try clear hcz168_0
  try clear hcz168_1
  try clear hcz168_2
  try clear hcz170_0
  try clear hcz170_1
  try clear hcz170_2
  try clear hcz171_0
  try clear hcz171_1
  try clear hcz171_2
  try clear hcz176_0
  try clear hcz176_1
  try clear hcz176_2
  try clear hcz178_0
  try clear hcz178_1
  try clear hcz178_2
  try clear hcz179_0
  try clear hcz179_1
  try clear hcz179_2
  try clear hcz183_0
  try clear hcz183_1
  try clear hcz183_2
  try clear hcz185_0
  try clear hcz185_1
  try clear hcz185_2
  try clear hcz59_0
  try clear hcz59_1
  try clear hcz59_2
  try clear hcz61_0
  try clear hcz61_1
  try clear hcz61_2
  try clear hcz63_0
  try clear hcz63_1
  try clear hcz63_2
  try clear hcz68_0
  try clear hcz68_1
  try clear hcz68_2
  try clear hcz70_0
  try clear hcz70_1
  try clear hcz70_2
  try clear hcz72_0
  try clear hcz72_1
  try clear hcz72_2
  try clear hcz78_0
  try clear hcz78_1
  try clear hcz78_2
  try clear hcz80_0
  try clear hcz80_1
  try clear hcz80_2
  try clear hcz83_0
  try clear hcz83_1
  try clear hcz83_2
  try clear hcz89_0
  try clear hcz89_1
  try clear hcz89_2
  try clear hcz91_0
  try clear hcz91_1
  try clear hcz91_2
  try clear hcz94_0
  try clear hcz94_1
  try clear hcz94_2
  try clear hfz100_0
  try clear hfz100_1
  try clear hfz100_2
  try clear hfz102_0
  try clear hfz102_1
  try clear hfz102_2
  try clear hfz105_0
  try clear hfz105_1
  try clear hfz105_2
  try clear hfz111_0
  try clear hfz111_1
  try clear hfz111_2
  try clear hfz113_0
  try clear hfz113_1
  try clear hfz113_2
  try clear hfz116_0
  try clear hfz116_1
  try clear hfz116_2
  try clear hfz122_0
  try clear hfz122_1
  try clear hfz122_2
  try clear hfz124_0
  try clear hfz124_1
  try clear hfz124_2
  try clear hfz125_0
  try clear hfz125_1
  try clear hfz125_2
  try clear hfz128_0
  try clear hfz128_1
  try clear hfz128_2
  try clear hfz130_0
  try clear hfz130_1
  try clear hfz130_2
  try clear hfz131_0
  try clear hfz131_1
  try clear hfz131_2
  try clear hfz136_0
  try clear hfz136_1
  try clear hfz136_2
  try clear hfz138_0
  try clear hfz138_1
  try clear hfz138_2
  try clear hfz139_0
  try clear hfz139_1
  try clear hfz139_2
  try clear hfz144_0
  try clear hfz144_1
  try clear hfz144_2
  try clear hfz146_0
  try clear hfz146_1
  try clear hfz146_2
  try clear hfz147_0
  try clear hfz147_1
  try clear hfz147_2
  try clear hfz152_0
  try clear hfz152_1
  try clear hfz152_2
  try clear hfz154_0
  try clear hfz154_1
  try clear hfz154_2
  try clear hfz155_0
  try clear hfz155_1
  try clear hfz155_2
  try clear hfz160_0
  try clear hfz160_1
  try clear hfz160_2
  try clear hfz162_0
  try clear hfz162_1
  try clear hfz162_2
  try clear hfz163_0
  try clear hfz163_1
  try clear hfz163_2
  try clear hfz168_0
  try clear hfz168_1
  try clear hfz168_2
  try clear hfz170_0
  try clear hfz170_1
  try clear hfz170_2
  try clear hfz171_0
  try clear hfz171_1
  try clear hfz171_2
  try clear hfz176_0
  try clear hfz176_1
  try clear hfz176_2
  try clear hfz178_0
  try clear hfz178_1
  try clear hfz178_2
  try clear hfz179_0
  try clear hfz179_1
  try clear hfz179_2
  try clear hfz183_0
  try clear hfz183_1
  try clear hfz183_2
  try clear hfz185_0
  try clear hfz185_1
  try clear hfz185_2
  try clear hfz59_0
  try clear hfz59_1
  try clear hfz59_2
  try clear hfz61_0
  try clear hfz61_1
  try clear hfz61_2
  try clear hfz63_0
  try clear hfz63_1
  try clear hfz63_2
  try clear hfz68_0
  try clear hfz68_1
  try clear hfz68_2
  try clear hfz70_0
  try clear hfz70_1
  try clear hfz70_2
  try clear hfz72_0
  try clear hfz72_1
  try clear hfz72_2
  try clear hfz78_0
  try clear hfz78_1
  try clear hfz78_2
  try clear hfz80_0
  try clear hfz80_1
  try clear hfz80_2
  try clear hfz83_0
  try clear hfz83_1
  try clear hfz83_2
  try clear hfz89_0
  try clear hfz89_1
  try clear hfz89_2
  try clear hfz91_0
  try clear hfz91_1
  try clear hfz91_2
  try clear hfz94_0
  try clear hfz94_1
  try clear hfz94_2
  obtain ⟨kq, x147_179, rfl, HA, HJ179, BK298, BK299, BK300, HB⟩ := hcut
  cases kq with
  | zero => exact absurd HA.out (by simp [impl_Binary.j1])
  | succ kj179 =>
  have H := HA.out
  clear HA
  simp only [impl_Binary.j1] at H
  by_cases c187 : x147_179 = true
  · subst c187
    have H1 : (if (IntKind.u64.wrap (a2_1)) = 0 then (some (0, 0, (⟨#[]⟩ : ByteArray), (⟨#[100, 105, 118, 105, 100, 101]⟩ : ByteArray))) else ((impl_divide.f a0 a1_0 a1_1 a1_2 a2_0 a2_1 a2_2).bind fun t338 => ((impl_into.f kj179 t338 a1_0).bind fun t339 => (some (a1_0, t339, (⟨#[]⟩ : ByteArray), (⟨#[]⟩ : ByteArray)))))) = some (r1, r2, r3, r4) := by rw [if_pos rfl] at H; exact H
    clear H
    have H := H1
    clear H1
    by_cases c188 : (IntKind.u64.wrap (a2_1)) = 0
    · rw [if_pos c188] at H
      have c188b0 : ((IntKind.u64.wrap (a2_1)) == 0) = true := beq_iff_eq.mpr c188
      have c188b1 : ((IntKind.u64.wrap (a2_1)) != 0) = false := bne_eq_false_iff_eq.mpr c188
      clear c188
      simp only [Option.some.injEq, Prod.mk.injEq] at H
      obtain ⟨rfl, rfl, rfl, rfl⟩ := H
      have hnb189 := NB300_298.out
      have hnc189 := NB298_300.out
      have hnb190 := NB300_299.out
      have hnc190 := NB299_300.out
      have hcz191_0 : wc.cell? ⟨gb300, 0, none⟩ = some (.int .i64 0) := (bC BK300.out 0).trans rfl
      have hcz191_1 : wc.cell? ⟨gb300, 1, none⟩ = some (.int .i64 0) := (bC BK300.out 1).trans rfl
      have hcz191_2 : wc.cell? ⟨gb300, 2, none⟩ = some (.string (⟨#[]⟩ : ByteArray)) := (bC BK300.out 2).trans rfl
      have hfz191_0 := bF BK300.out 0
      have hfz191_1 := bF BK300.out 1
      have hfz191_2 := bF BK300.out 2
      go_wp2
      repeat (go_quiet (fail); try go_wp2)
      refine bodyPost_ret (results_ct rfl _ _ gb300 34 #[.int .i64 0, .int .i64 0, .string (⟨#[]⟩ : ByteArray)] (0, 0) _ rfl (by (with_reducible repeat (first | apply bN | apply bD | apply bA)); refine blk_put (cs := #[.int .i64 0, .int .i64 0, .string (⟨#[]⟩ : ByteArray)]) ?_ 2 _ rfl; (with_reducible repeat (first | apply bN | apply bD | apply bA)); refine blk_put (cs := #[.int .i64 0, .int .i64 0, .string (⟨#[]⟩ : ByteArray)]) ?_ 1 _ rfl; (with_reducible repeat (first | apply bN | apply bD | apply bA)); refine blk_put (cs := #[.int .i64 0, .int .i64 0, .string (⟨#[]⟩ : ByteArray)]) ?_ 0 _ rfl; (with_reducible repeat (first | apply bN | apply bD | apply bA)); exact BK300.out) Try.underlying34 rfl (by kernel_rfl)) rfl ?_
      exact ⟨by first | rfl | (simp [errW_none, errW_some] <;> rfl) | (simp [*, errW_none, errW_some] <;> rfl), by repeat (first | (with_reducible first | exact HB.out | apply wA | apply wN | apply wD | refine wS ?_ GE298.out | refine wS ?_ GE299.out | refine wS ?_ GE300.out) | exact HB.out)⟩
    rw [if_neg c188] at H
    have c188b0 : ((IntKind.u64.wrap (a2_1)) == 0) = false := beq_eq_false_iff_ne.mpr c188
    have c188b1 : ((IntKind.u64.wrap (a2_1)) != 0) = true := bne_iff_ne.mpr c188
    replace H := Option.bind_eq_some_iff.mp H
    obtain ⟨t338, A1920, H⟩ := H
    replace H : ((impl_into.f kj179 t338 a1_0).bind fun t339 => (some (a1_0, t339, (⟨#[]⟩ : ByteArray), (⟨#[]⟩ : ByteArray)))) = some (r1, r2, r3, r4) := H
    have A192 := mk0 A1920
    clear A1920
    replace H := Option.bind_eq_some_iff.mp H
    obtain ⟨t339, A1930, H⟩ := H
    replace H : (some (a1_0, t339, (⟨#[]⟩ : ByteArray), (⟨#[]⟩ : ByteArray))) = some (r1, r2, r3, r4) := H
    have A193 := mk0 A1930
    clear A1930
    simp only [Option.some.injEq, Prod.mk.injEq] at H
    obtain ⟨rfl, rfl, rfl, rfl⟩ := H
    have hnb194 := NB298_299.out
    have hnc194 := NB299_298.out
    have hnb195 := NB298_300.out
    have hnc195 := NB300_298.out
    have hcz196_0 : wc.cell? ⟨gb298, 0, none⟩ = some (.int .i64 a1_0) := (bC BK298.out 0).trans rfl
    have hcz196_1 : wc.cell? ⟨gb298, 1, none⟩ = some (.int .i64 a1_1) := (bC BK298.out 1).trans rfl
    have hcz196_2 : wc.cell? ⟨gb298, 2, none⟩ = some (.string a1_2) := (bC BK298.out 2).trans rfl
    have hfz196_0 := bF BK298.out 0
    have hfz196_1 := bF BK298.out 1
    have hfz196_2 := bF BK298.out 2
    have hnb197 := NB299_300.out
    have hnc197 := NB300_299.out
    have hcz198_0 : wc.cell? ⟨gb299, 0, none⟩ = some (.int .i64 a2_0) := (bC BK299.out 0).trans rfl
    have hcz198_1 : wc.cell? ⟨gb299, 1, none⟩ = some (.int .i64 a2_1) := (bC BK299.out 1).trans rfl
    have hcz198_2 : wc.cell? ⟨gb299, 2, none⟩ = some (.string a2_2) := (bC BK299.out 2).trans rfl
    have hfz198_0 := bF BK299.out 0
    have hfz198_1 := bF BK299.out 1
    have hfz198_2 := bF BK299.out 2
    go_wp2_with (first | (go_at_call 94; (with_reducible refine (impl_divide.calls a0 a1_0 a1_1 a1_2 a2_0 a2_1 a2_2 t338 _ A192.out).mono ?_); rintro e w199 ⟨rfl, hb⟩; have n0_ := mk0 (bB (g := gb298) (o := .cells #[.int .i64 a1_0, .int .i64 a1_1, .string a1_2] 34 (0, 0)) (by (with_reducible repeat (first | apply bN | apply bD | apply bA)); exact BK298.out) hb); have n1_ := mk0 (bB (g := gb299) (o := .cells #[.int .i64 a2_0, .int .i64 a2_1, .string a2_2] 34 (0, 0)) (by (with_reducible repeat (first | apply bN | apply bD | apply bA)); exact BK299.out) hb); have n2_ := mk0 (bB (g := gb300) (o := .cells #[.int .i64 0, .int .i64 0, .string (⟨#[]⟩ : ByteArray)] 34 (0, 0)) (by (with_reducible repeat (first | apply bN | apply bD | apply bA)); exact BK300.out) hb); have n3_ := mk0 (below_step (by repeat (first | (with_reducible first | exact HB.out | apply wA | apply wN | apply wD | refine wS ?_ GE298.out | refine wS ?_ GE299.out | refine wS ?_ GE300.out) | exact HB.out)) hb); clear BK298; clear BK299; clear BK300; clear HB; have BK298 := n0_; have BK299 := n1_; have BK300 := n2_; have HB := n3_; clear n0_ n1_ n2_ n3_; (try clear hb); (try clear hb2); (try clear hk); (try clear hi)) | (go_at_call 60; (with_reducible refine (impl_into.calls kj179 t338 a1_0 t339 _ A193.out).mono ?_); rintro e w' ⟨rfl, ⟨nd, rfl⟩⟩; (try first | exact ⟨rfl, _, World.drewN_drewN _ _ _⟩ | exact ⟨rfl, _, Eq.trans (World.drewN_drewN _ _ _) (congrArg (World.drewN _) (Nat.add_assoc _ _ _))⟩); have hcz200_0 : w199.cell? ⟨gb300, 0, none⟩ = some (.int .i64 0) := (bC BK300.out 0).trans rfl; have hcz200_1 : w199.cell? ⟨gb300, 1, none⟩ = some (.int .i64 0) := (bC BK300.out 1).trans rfl; have hcz200_2 : w199.cell? ⟨gb300, 2, none⟩ = some (.string (⟨#[]⟩ : ByteArray)) := (bC BK300.out 2).trans rfl; have hfz200_0 := bF BK300.out 0; have hfz200_1 := bF BK300.out 1; have hfz200_2 := bF BK300.out 2))
    repeat (go_quiet (first | (go_at_call 94; (with_reducible refine (impl_divide.calls a0 a1_0 a1_1 a1_2 a2_0 a2_1 a2_2 t338 _ A192.out).mono ?_); rintro e w199 ⟨rfl, hb⟩; have n0_ := mk0 (bB (g := gb298) (o := .cells #[.int .i64 a1_0, .int .i64 a1_1, .string a1_2] 34 (0, 0)) (by (with_reducible repeat (first | apply bN | apply bD | apply bA)); exact BK298.out) hb); have n1_ := mk0 (bB (g := gb299) (o := .cells #[.int .i64 a2_0, .int .i64 a2_1, .string a2_2] 34 (0, 0)) (by (with_reducible repeat (first | apply bN | apply bD | apply bA)); exact BK299.out) hb); have n2_ := mk0 (bB (g := gb300) (o := .cells #[.int .i64 0, .int .i64 0, .string (⟨#[]⟩ : ByteArray)] 34 (0, 0)) (by (with_reducible repeat (first | apply bN | apply bD | apply bA)); exact BK300.out) hb); have n3_ := mk0 (below_step (by repeat (first | (with_reducible first | exact HB.out | apply wA | apply wN | apply wD | refine wS ?_ GE298.out | refine wS ?_ GE299.out | refine wS ?_ GE300.out) | exact HB.out)) hb); clear BK298; clear BK299; clear BK300; clear HB; have BK298 := n0_; have BK299 := n1_; have BK300 := n2_; have HB := n3_; clear n0_ n1_ n2_ n3_; (try clear hb); (try clear hb2); (try clear hk); (try clear hi)) | (go_at_call 60; (with_reducible refine (impl_into.calls kj179 t338 a1_0 t339 _ A193.out).mono ?_); rintro e w' ⟨rfl, ⟨nd, rfl⟩⟩; (try first | exact ⟨rfl, _, World.drewN_drewN _ _ _⟩ | exact ⟨rfl, _, Eq.trans (World.drewN_drewN _ _ _) (congrArg (World.drewN _) (Nat.add_assoc _ _ _))⟩); have hcz200_0 : w199.cell? ⟨gb300, 0, none⟩ = some (.int .i64 0) := (bC BK300.out 0).trans rfl; have hcz200_1 : w199.cell? ⟨gb300, 1, none⟩ = some (.int .i64 0) := (bC BK300.out 1).trans rfl; have hcz200_2 : w199.cell? ⟨gb300, 2, none⟩ = some (.string (⟨#[]⟩ : ByteArray)) := (bC BK300.out 2).trans rfl; have hfz200_0 := bF BK300.out 0; have hfz200_1 := bF BK300.out 1; have hfz200_2 := bF BK300.out 2)); try go_wp2_with (first | (go_at_call 94; (with_reducible refine (impl_divide.calls a0 a1_0 a1_1 a1_2 a2_0 a2_1 a2_2 t338 _ A192.out).mono ?_); rintro e w199 ⟨rfl, hb⟩; have n0_ := mk0 (bB (g := gb298) (o := .cells #[.int .i64 a1_0, .int .i64 a1_1, .string a1_2] 34 (0, 0)) (by (with_reducible repeat (first | apply bN | apply bD | apply bA)); exact BK298.out) hb); have n1_ := mk0 (bB (g := gb299) (o := .cells #[.int .i64 a2_0, .int .i64 a2_1, .string a2_2] 34 (0, 0)) (by (with_reducible repeat (first | apply bN | apply bD | apply bA)); exact BK299.out) hb); have n2_ := mk0 (bB (g := gb300) (o := .cells #[.int .i64 0, .int .i64 0, .string (⟨#[]⟩ : ByteArray)] 34 (0, 0)) (by (with_reducible repeat (first | apply bN | apply bD | apply bA)); exact BK300.out) hb); have n3_ := mk0 (below_step (by repeat (first | (with_reducible first | exact HB.out | apply wA | apply wN | apply wD | refine wS ?_ GE298.out | refine wS ?_ GE299.out | refine wS ?_ GE300.out) | exact HB.out)) hb); clear BK298; clear BK299; clear BK300; clear HB; have BK298 := n0_; have BK299 := n1_; have BK300 := n2_; have HB := n3_; clear n0_ n1_ n2_ n3_; (try clear hb); (try clear hb2); (try clear hk); (try clear hi)) | (go_at_call 60; (with_reducible refine (impl_into.calls kj179 t338 a1_0 t339 _ A193.out).mono ?_); rintro e w' ⟨rfl, ⟨nd, rfl⟩⟩; (try first | exact ⟨rfl, _, World.drewN_drewN _ _ _⟩ | exact ⟨rfl, _, Eq.trans (World.drewN_drewN _ _ _) (congrArg (World.drewN _) (Nat.add_assoc _ _ _))⟩); have hcz200_0 : w199.cell? ⟨gb300, 0, none⟩ = some (.int .i64 0) := (bC BK300.out 0).trans rfl; have hcz200_1 : w199.cell? ⟨gb300, 1, none⟩ = some (.int .i64 0) := (bC BK300.out 1).trans rfl; have hcz200_2 : w199.cell? ⟨gb300, 2, none⟩ = some (.string (⟨#[]⟩ : ByteArray)) := (bC BK300.out 2).trans rfl; have hfz200_0 := bF BK300.out 0; have hfz200_1 := bF BK300.out 1; have hfz200_2 := bF BK300.out 2)))
    refine bodyPost_ret (results_ct rfl _ _ gb300 34 #[.int .i64 a1_0, .int .i64 t339, .string (⟨#[]⟩ : ByteArray)] (0, 0) _ rfl (by (with_reducible repeat (first | apply bN | apply bD | apply bA)); refine blk_put (cs := #[.int .i64 a1_0, .int .i64 t339, .string (⟨#[]⟩ : ByteArray)]) ?_ 2 _ rfl; (with_reducible repeat (first | apply bN | apply bD | apply bA)); refine blk_put (cs := #[.int .i64 a1_0, .int .i64 0, .string (⟨#[]⟩ : ByteArray)]) ?_ 1 _ rfl; (with_reducible repeat (first | apply bN | apply bD | apply bA)); refine blk_put (cs := #[.int .i64 0, .int .i64 0, .string (⟨#[]⟩ : ByteArray)]) ?_ 0 _ rfl; (with_reducible repeat (first | apply bN | apply bD | apply bA)); exact BK300.out) Try.underlying34 rfl (by kernel_rfl)) rfl ?_
    exact ⟨by first | rfl | (simp [errW_none, errW_some] <;> rfl) | (simp [*, errW_none, errW_some] <;> rfl), by repeat (first | (with_reducible first | exact HB.out | apply wA | apply wN | apply wD | refine wS ?_ GE298.out | refine wS ?_ GE299.out | refine wS ?_ GE300.out) | exact HB.out)⟩
  replace c187 := Bool.eq_false_iff.mpr c187
  subst c187
  have H1 : ((impl_shift.f kj179 a0 a1_0 a1_1 a1_2 a2_0 a2_1 a2_2).bind fun t340 => ((impl_into.f kj179 t340 a1_0).bind fun t341 => (some (a1_0, t341, (⟨#[]⟩ : ByteArray), (⟨#[]⟩ : ByteArray))))) = some (r1, r2, r3, r4) := by rw [if_neg (show ¬ (false = true) by decide)] at H; exact H
  clear H
  have H := H1
  clear H1
  replace H := Option.bind_eq_some_iff.mp H
  obtain ⟨t340, A2010, H⟩ := H
  replace H : ((impl_into.f kj179 t340 a1_0).bind fun t341 => (some (a1_0, t341, (⟨#[]⟩ : ByteArray), (⟨#[]⟩ : ByteArray)))) = some (r1, r2, r3, r4) := H
  have A201 := mk0 A2010
  clear A2010
  replace H := Option.bind_eq_some_iff.mp H
  obtain ⟨t341, A2020, H⟩ := H
  replace H : (some (a1_0, t341, (⟨#[]⟩ : ByteArray), (⟨#[]⟩ : ByteArray))) = some (r1, r2, r3, r4) := H
  have A202 := mk0 A2020
  clear A2020
  simp only [Option.some.injEq, Prod.mk.injEq] at H
  obtain ⟨rfl, rfl, rfl, rfl⟩ := H
  have hnb203 := NB298_299.out
  have hnc203 := NB299_298.out
  have hnb204 := NB298_300.out
  have hnc204 := NB300_298.out
  have hcz205_0 : wc.cell? ⟨gb298, 0, none⟩ = some (.int .i64 a1_0) := (bC BK298.out 0).trans rfl
  have hcz205_1 : wc.cell? ⟨gb298, 1, none⟩ = some (.int .i64 a1_1) := (bC BK298.out 1).trans rfl
  have hcz205_2 : wc.cell? ⟨gb298, 2, none⟩ = some (.string a1_2) := (bC BK298.out 2).trans rfl
  have hfz205_0 := bF BK298.out 0
  have hfz205_1 := bF BK298.out 1
  have hfz205_2 := bF BK298.out 2
  have hnb206 := NB299_300.out
  have hnc206 := NB300_299.out
  have hcz207_0 : wc.cell? ⟨gb299, 0, none⟩ = some (.int .i64 a2_0) := (bC BK299.out 0).trans rfl
  have hcz207_1 : wc.cell? ⟨gb299, 1, none⟩ = some (.int .i64 a2_1) := (bC BK299.out 1).trans rfl
  have hcz207_2 : wc.cell? ⟨gb299, 2, none⟩ = some (.string a2_2) := (bC BK299.out 2).trans rfl
  have hfz207_0 := bF BK299.out 0
  have hfz207_1 := bF BK299.out 1
  have hfz207_2 := bF BK299.out 2
  go_wp2_with (first | (go_at_call 95; (with_reducible refine (impl_shift.calls kj179 a0 a1_0 a1_1 a1_2 a2_0 a2_1 a2_2 t340 _ A201.out).mono ?_); rintro e w208 ⟨rfl, hb⟩; have n0_ := mk0 (bB (g := gb298) (o := .cells #[.int .i64 a1_0, .int .i64 a1_1, .string a1_2] 34 (0, 0)) (by (with_reducible repeat (first | apply bN | apply bD | apply bA)); exact BK298.out) hb); have n1_ := mk0 (bB (g := gb299) (o := .cells #[.int .i64 a2_0, .int .i64 a2_1, .string a2_2] 34 (0, 0)) (by (with_reducible repeat (first | apply bN | apply bD | apply bA)); exact BK299.out) hb); have n2_ := mk0 (bB (g := gb300) (o := .cells #[.int .i64 0, .int .i64 0, .string (⟨#[]⟩ : ByteArray)] 34 (0, 0)) (by (with_reducible repeat (first | apply bN | apply bD | apply bA)); exact BK300.out) hb); have n3_ := mk0 (below_step (by repeat (first | (with_reducible first | exact HB.out | apply wA | apply wN | apply wD | refine wS ?_ GE298.out | refine wS ?_ GE299.out | refine wS ?_ GE300.out) | exact HB.out)) hb); clear BK298; clear BK299; clear BK300; clear HB; have BK298 := n0_; have BK299 := n1_; have BK300 := n2_; have HB := n3_; clear n0_ n1_ n2_ n3_; (try clear hb); (try clear hb2); (try clear hk); (try clear hi)) | (go_at_call 60; (with_reducible refine (impl_into.calls kj179 t340 a1_0 t341 _ A202.out).mono ?_); rintro e w' ⟨rfl, ⟨nd, rfl⟩⟩; (try first | exact ⟨rfl, _, World.drewN_drewN _ _ _⟩ | exact ⟨rfl, _, Eq.trans (World.drewN_drewN _ _ _) (congrArg (World.drewN _) (Nat.add_assoc _ _ _))⟩); have hcz209_0 : w208.cell? ⟨gb300, 0, none⟩ = some (.int .i64 0) := (bC BK300.out 0).trans rfl; have hcz209_1 : w208.cell? ⟨gb300, 1, none⟩ = some (.int .i64 0) := (bC BK300.out 1).trans rfl; have hcz209_2 : w208.cell? ⟨gb300, 2, none⟩ = some (.string (⟨#[]⟩ : ByteArray)) := (bC BK300.out 2).trans rfl; have hfz209_0 := bF BK300.out 0; have hfz209_1 := bF BK300.out 1; have hfz209_2 := bF BK300.out 2))
  repeat (go_quiet (first | (go_at_call 95; (with_reducible refine (impl_shift.calls kj179 a0 a1_0 a1_1 a1_2 a2_0 a2_1 a2_2 t340 _ A201.out).mono ?_); rintro e w208 ⟨rfl, hb⟩; have n0_ := mk0 (bB (g := gb298) (o := .cells #[.int .i64 a1_0, .int .i64 a1_1, .string a1_2] 34 (0, 0)) (by (with_reducible repeat (first | apply bN | apply bD | apply bA)); exact BK298.out) hb); have n1_ := mk0 (bB (g := gb299) (o := .cells #[.int .i64 a2_0, .int .i64 a2_1, .string a2_2] 34 (0, 0)) (by (with_reducible repeat (first | apply bN | apply bD | apply bA)); exact BK299.out) hb); have n2_ := mk0 (bB (g := gb300) (o := .cells #[.int .i64 0, .int .i64 0, .string (⟨#[]⟩ : ByteArray)] 34 (0, 0)) (by (with_reducible repeat (first | apply bN | apply bD | apply bA)); exact BK300.out) hb); have n3_ := mk0 (below_step (by repeat (first | (with_reducible first | exact HB.out | apply wA | apply wN | apply wD | refine wS ?_ GE298.out | refine wS ?_ GE299.out | refine wS ?_ GE300.out) | exact HB.out)) hb); clear BK298; clear BK299; clear BK300; clear HB; have BK298 := n0_; have BK299 := n1_; have BK300 := n2_; have HB := n3_; clear n0_ n1_ n2_ n3_; (try clear hb); (try clear hb2); (try clear hk); (try clear hi)) | (go_at_call 60; (with_reducible refine (impl_into.calls kj179 t340 a1_0 t341 _ A202.out).mono ?_); rintro e w' ⟨rfl, ⟨nd, rfl⟩⟩; (try first | exact ⟨rfl, _, World.drewN_drewN _ _ _⟩ | exact ⟨rfl, _, Eq.trans (World.drewN_drewN _ _ _) (congrArg (World.drewN _) (Nat.add_assoc _ _ _))⟩); have hcz209_0 : w208.cell? ⟨gb300, 0, none⟩ = some (.int .i64 0) := (bC BK300.out 0).trans rfl; have hcz209_1 : w208.cell? ⟨gb300, 1, none⟩ = some (.int .i64 0) := (bC BK300.out 1).trans rfl; have hcz209_2 : w208.cell? ⟨gb300, 2, none⟩ = some (.string (⟨#[]⟩ : ByteArray)) := (bC BK300.out 2).trans rfl; have hfz209_0 := bF BK300.out 0; have hfz209_1 := bF BK300.out 1; have hfz209_2 := bF BK300.out 2)); try go_wp2_with (first | (go_at_call 95; (with_reducible refine (impl_shift.calls kj179 a0 a1_0 a1_1 a1_2 a2_0 a2_1 a2_2 t340 _ A201.out).mono ?_); rintro e w208 ⟨rfl, hb⟩; have n0_ := mk0 (bB (g := gb298) (o := .cells #[.int .i64 a1_0, .int .i64 a1_1, .string a1_2] 34 (0, 0)) (by (with_reducible repeat (first | apply bN | apply bD | apply bA)); exact BK298.out) hb); have n1_ := mk0 (bB (g := gb299) (o := .cells #[.int .i64 a2_0, .int .i64 a2_1, .string a2_2] 34 (0, 0)) (by (with_reducible repeat (first | apply bN | apply bD | apply bA)); exact BK299.out) hb); have n2_ := mk0 (bB (g := gb300) (o := .cells #[.int .i64 0, .int .i64 0, .string (⟨#[]⟩ : ByteArray)] 34 (0, 0)) (by (with_reducible repeat (first | apply bN | apply bD | apply bA)); exact BK300.out) hb); have n3_ := mk0 (below_step (by repeat (first | (with_reducible first | exact HB.out | apply wA | apply wN | apply wD | refine wS ?_ GE298.out | refine wS ?_ GE299.out | refine wS ?_ GE300.out) | exact HB.out)) hb); clear BK298; clear BK299; clear BK300; clear HB; have BK298 := n0_; have BK299 := n1_; have BK300 := n2_; have HB := n3_; clear n0_ n1_ n2_ n3_; (try clear hb); (try clear hb2); (try clear hk); (try clear hi)) | (go_at_call 60; (with_reducible refine (impl_into.calls kj179 t340 a1_0 t341 _ A202.out).mono ?_); rintro e w' ⟨rfl, ⟨nd, rfl⟩⟩; (try first | exact ⟨rfl, _, World.drewN_drewN _ _ _⟩ | exact ⟨rfl, _, Eq.trans (World.drewN_drewN _ _ _) (congrArg (World.drewN _) (Nat.add_assoc _ _ _))⟩); have hcz209_0 : w208.cell? ⟨gb300, 0, none⟩ = some (.int .i64 0) := (bC BK300.out 0).trans rfl; have hcz209_1 : w208.cell? ⟨gb300, 1, none⟩ = some (.int .i64 0) := (bC BK300.out 1).trans rfl; have hcz209_2 : w208.cell? ⟨gb300, 2, none⟩ = some (.string (⟨#[]⟩ : ByteArray)) := (bC BK300.out 2).trans rfl; have hfz209_0 := bF BK300.out 0; have hfz209_1 := bF BK300.out 1; have hfz209_2 := bF BK300.out 2)))
  refine bodyPost_ret (results_ct rfl _ _ gb300 34 #[.int .i64 a1_0, .int .i64 t341, .string (⟨#[]⟩ : ByteArray)] (0, 0) _ rfl (by (with_reducible repeat (first | apply bN | apply bD | apply bA)); refine blk_put (cs := #[.int .i64 a1_0, .int .i64 t341, .string (⟨#[]⟩ : ByteArray)]) ?_ 2 _ rfl; (with_reducible repeat (first | apply bN | apply bD | apply bA)); refine blk_put (cs := #[.int .i64 a1_0, .int .i64 0, .string (⟨#[]⟩ : ByteArray)]) ?_ 1 _ rfl; (with_reducible repeat (first | apply bN | apply bD | apply bA)); refine blk_put (cs := #[.int .i64 0, .int .i64 0, .string (⟨#[]⟩ : ByteArray)]) ?_ 0 _ rfl; (with_reducible repeat (first | apply bN | apply bD | apply bA)); exact BK300.out) Try.underlying34 rfl (by kernel_rfl)) rfl ?_
  exact ⟨by first | rfl | (simp [errW_none, errW_some] <;> rfl) | (simp [*, errW_none, errW_some] <;> rfl), by repeat (first | (with_reducible first | exact HB.out | apply wA | apply wN | apply wD | refine wS ?_ GE298.out | refine wS ?_ GE299.out | refine wS ?_ GE300.out) | exact HB.out)⟩

end Go.Proofs.Ytajlomhnednghaa.B
