/- Texts of this session, put together (wip/tools/pack.py): Rx85, Open, Arith ... Conditions: none. -/
import Derived.Test.YtajlomhnednghaaBinam1
import Derived.Test.YtajlomhnednghaaBinam3
import Derived.Test.YtajlomhnednghaaBinam5
import Derived.Test.YtajlomhnednghaaBinaw
import Derived.Deep.Slices
import Derived.Deep.Fields
import Derived.ChangeSame
import Derived.WideShapes
import Derived.RowKit
import Derived.Laws.BitsLemmas
import Derived.Test.YtajlomhnednghaaBinam4
import Derived.Test.YtajlomhnednghaaBinam2
import Derived.Test.YtajlomhnednghaaRows
import Derived.WalkKit
import Derived.ProofKit
import Derived.OpenShut
import Derived.ShutString
import Derived.ChangeOld
import Derived.Below
import Derived.SizedLaws
import Derived.Carry
namespace Go.Proofs.Ytajlomhnednghaa.R
open Go.RowKit Go.Proofs.YtajlomhnednghaaW.PrintWords Go.Proofs.YtajlomhnednghaaW.PrintLast Go.Proofs.YtajlomhnednghaaW.PrintMore
attribute [local go_sem] max2_int min2_int max_two min_two max_three min_three max_four min_four   -- for this text's walks alone
set_option linter.unusedVariables false
set_option linter.unusedSimpArgs false

/-! ### laws_FnExactBinary: function 14 -/
def laws_FnExactBinary.f (k : Nat) (a0 : Int) (a1_0 : Int) (a1_1 : Int) (a1_2 : ByteArray) (a2_0 : Int) (a2_1 : Int) (a2_2 : ByteArray) : Option (Bool) := (laws_szValue.f a1_0 a1_1 a1_2 1048576).bind fun t631 => (if t631 < 0 then (some true) else ((laws_szValue.f a2_0 a2_1 a2_2 t631).bind fun t632 => (if t632 < 0 then (some true) else ((laws_toValue.f a1_0 a1_1 a1_2).bind fun bt633 => ((laws_toValue.f a2_0 a2_1 a2_2).bind fun bt636 => ((spec_Binary.f k a0 bt633.1 bt633.2.1 bt633.2.2 bt636.1 bt636.2.1 bt636.2.2).bind fun bt639 => ((laws_toValue.f a1_0 a1_1 a1_2).bind fun bt644 => ((laws_toValue.f a2_0 a2_1 a2_2).bind fun bt647 => ((impl_Binary.f k a0 bt644.1 bt644.2.1 bt644.2.2 bt647.1 bt647.2.1 bt647.2.2).bind fun bt650 => ((laws_eqValue.f bt650.1 bt650.2.1 bt650.2.2.1 bt639.1 bt639.2.1 bt639.2.2.1).bind fun t655 => (if t655 = true then (if bt650.2.2.2.toList = bt639.2.2.2.toList then (some true) else (some false)) else (some false))))))))))))
theorem laws_FnExactBinary.mono : ∀ a0 a1 a2 a3 a4 a5 a6 k, LeO (laws_FnExactBinary.f k a0 a1 a2 a3 a4 a5 a6) (laws_FnExactBinary.f (k + 1) a0 a1 a2 a3 a4 a5 a6) := by
  intro a0 a1 a2 a3 a4 a5 a6 k
  unfold laws_FnExactBinary.f
  repeat' first
      | (with_reducible exact impl_Binary.mono _ _ _ _ _ _ _ _)
      | (with_reducible exact spec_Binary.mono _ _ _ _ _ _ _ _)
      | (with_reducible exact LeO.refl _)
      | (with_reducible exact LeO.none _)
      | (with_reducible refine LeO.ite ?_ ?_)
      | (with_reducible refine LeO.bind ?_ (fun _ => ?_))
      | exact impl_Binary.mono _ _ _ _ _ _ _ _
      | exact spec_Binary.mono _ _ _ _ _ _ _ _
      | exact LeO.none _
      | refine LeO.ite ?_ ?_
      | refine LeO.bind ?_ (fun _ => ?_)
def laws_FnExactBinary.T8 : Bool × List (List Nat × List Nat) := (true, [([], []), ([], []), ([1], [1]), ([], []), ([3, 2], [3]), ([0, 2, 4, 4], [0, 2, 4]), ([5], [5]), ([6], [6]), ([6], [6]), ([], []), ([9, 7, 5, 0, 1, 2, 3, 4, 5, 6, 7, 9], [7, 9]), ([8, 10, 0, 1, 2, 3, 4, 5, 6, 7, 8, 9, 10], [8])])
def laws_FnExactBinary.B8 : List Nat := [0, 0, 2, 0, 14, 31, 63, 127, 127, 0, 767, 2047]
theorem laws_FnExactBinary.tab8 : rtab .any (opsOf Try.f14 8) = laws_FnExactBinary.T8 := by kernel_rfl
theorem laws_FnExactBinary.bits8 : waitsOk laws_FnExactBinary.T8.2 laws_FnExactBinary.B8 = true := by kernel_rfl
def laws_FnExactBinary.T9 : Bool × List (List Nat × List Nat) := (true, [([], []), ([], []), ([1], [1]), ([], []), ([3, 2], [3]), ([0, 2, 4, 4], [0, 2, 4]), ([5], [5]), ([6], [6]), ([6], [6]), ([], []), ([9, 7, 5, 0, 1, 2, 3, 4, 5, 6, 7, 9], [7, 9]), ([8, 10, 0, 1, 2, 3, 4, 5, 6, 7, 8, 9, 10], [8])])
def laws_FnExactBinary.B9 : List Nat := [0, 0, 2, 0, 14, 31, 63, 127, 127, 0, 767, 2047]
theorem laws_FnExactBinary.tab9 : rtab .any (opsOf Try.f14 9) = laws_FnExactBinary.T9 := by kernel_rfl
theorem laws_FnExactBinary.bits9 : waitsOk laws_FnExactBinary.T9.2 laws_FnExactBinary.B9 = true := by kernel_rfl
set_option maxHeartbeats 8000000 in
set_option maxRecDepth 100000 in
theorem laws_FnExactBinary.calls (k : Nat) (a0 : Int) (a1_0 : Int) (a1_1 : Int) (a1_2 : ByteArray) (a2_0 : Int) (a2_1 : Int) (a2_2 : ByteArray) (r : Bool) (w : World) (hrt : r = true) (h : laws_FnExactBinary.f k a0 a1_0 a1_1 a1_2 a2_0 a2_1 a2_2 = some r) :
    Calls Try.prog 14 #[.int .i64 a0, .agg #[.int .i64 a1_0, .int .i64 a1_1, .string a1_2], .agg #[.int .i64 a2_0, .int .i64 a2_1, .string a2_2]] w fun e w' => e = .returned (.bool r) ∧ Below w.heap.size w w' := by
  have hu31 := Try.underlying31
  have hu34 := Try.underlying34
  have HB := Aside0.mk (Below.refl w.heap.size w)
  have H : ((laws_szValue.f a1_0 a1_1 a1_2 1048576).bind fun t631 => (if t631 < 0 then (some true) else ((laws_szValue.f a2_0 a2_1 a2_2 t631).bind fun t632 => (if t632 < 0 then (some true) else ((laws_toValue.f a1_0 a1_1 a1_2).bind fun bt633 => ((laws_toValue.f a2_0 a2_1 a2_2).bind fun bt636 => ((spec_Binary.f k a0 bt633.1 bt633.2.1 bt633.2.2 bt636.1 bt636.2.1 bt636.2.2).bind fun bt639 => ((laws_toValue.f a1_0 a1_1 a1_2).bind fun bt644 => ((laws_toValue.f a2_0 a2_1 a2_2).bind fun bt647 => ((impl_Binary.f k a0 bt644.1 bt644.2.1 bt644.2.2 bt647.1 bt647.2.1 bt647.2.2).bind fun bt650 => ((laws_eqValue.f bt650.1 bt650.2.1 bt650.2.2.1 bt639.1 bt639.2.1 bt639.2.2.1).bind fun t655 => (if t655 = true then (if bt650.2.2.2.toList = bt639.2.2.2.toList then (some true) else (some false)) else (some false))))))))))))) = some r := h
  clear h
  replace H := Option.bind_eq_some_iff.mp H
  obtain ⟨t631, A40, H⟩ := H
  replace H : (if t631 < 0 then (some true) else ((laws_szValue.f a2_0 a2_1 a2_2 t631).bind fun t632 => (if t632 < 0 then (some true) else ((laws_toValue.f a1_0 a1_1 a1_2).bind fun bt633 => ((laws_toValue.f a2_0 a2_1 a2_2).bind fun bt636 => ((spec_Binary.f k a0 bt633.1 bt633.2.1 bt633.2.2 bt636.1 bt636.2.1 bt636.2.2).bind fun bt639 => ((laws_toValue.f a1_0 a1_1 a1_2).bind fun bt644 => ((laws_toValue.f a2_0 a2_1 a2_2).bind fun bt647 => ((impl_Binary.f k a0 bt644.1 bt644.2.1 bt644.2.2 bt647.1 bt647.2.1 bt647.2.2).bind fun bt650 => ((laws_eqValue.f bt650.1 bt650.2.1 bt650.2.2.1 bt639.1 bt639.2.1 bt639.2.2.1).bind fun t655 => (if t655 = true then (if bt650.2.2.2.toList = bt639.2.2.2.toList then (some true) else (some false)) else (some false)))))))))))) = some r := H
  have A4 := Aside0.mk A40
  clear A40
  by_cases c5 : t631 < 0
  · rw [if_pos c5] at H
    have c5b0 : decide (t631 < 0) = true := decide_eq_true c5
    clear c5
    obtain rfl := Option.some.inj H
    simp only [Option.some.injEq, Prod.mk.injEq] at H
    obtain ⟨rfl⟩ := H
    go_enter Try.func14, Try.ntmps14
    go_wp2_with (first | ((with_reducible refine gate_dst (N := 4) rfl ?_); refine box_event ?hg (N := 4) ?hd (cs := #[.int .i64 a1_0, .int .i64 a1_1, .string a1_2]) (t := 31) ?hr ?_; (case hd => rfl); (case hg => rfl); (case hr => first | (go_simp; done) | (go_simp; rfl)); intro gb629 hg w6 hbox hb; have n0_ := Aside0.mk (below_step (by repeat (first | (with_reducible first | exact HB.out | apply below_alloc | apply pw_below_drewN | apply below_drew1) | exact HB.out)) hb); have n1_ := Aside0.mk (hbox); have n2_ := Aside0.mk ((by rw [hg]; exact (below_size (by repeat (first | (with_reducible first | exact HB.out | apply below_alloc | apply pw_below_drewN | apply below_drew1) | exact HB.out))) : w.heap.size ≤ gb629)); have n3_ := Aside0.mk ((by rw [hg]; exact (below_size (by repeat (first | (with_reducible first | exact HB.out | apply below_alloc | apply pw_below_drewN | apply below_drew1) | exact HB.out))) : w.heap.size ≤ gb629)); clear HB; have HB := n0_; have BK629 := n1_; have GW629 := n2_; have GE629 := n3_; clear n0_ n1_ n2_ n3_; clear hb hbox hg) | ((with_reducible refine gate_dst (N := 5) rfl ?_); refine box_event ?hg (N := 5) ?hd (cs := #[.int .i64 a2_0, .int .i64 a2_1, .string a2_2]) (t := 31) ?hr ?_; (case hd => rfl); (case hg => rfl); (case hr => first | (go_simp; done) | (go_simp; rfl)); intro gb630 hg w7 hbox hb; have n0_ := Aside0.mk (blk_below (g := gb629) (o := .cells #[.int .i64 a1_0, .int .i64 a1_1, .string a1_2] 31 (0, 0)) (by (with_reducible repeat (first | refine blk_drewN ?_ _ | refine blk_drew ?_ | refine blk_alloc ?_ _)); exact BK629.out) hb); have n1_ := Aside0.mk (below_step (by repeat (first | (with_reducible first | exact HB.out | apply below_alloc | apply pw_below_drewN | apply below_drew1 | refine below_set ?_ GE629.out) | exact HB.out)) hb); have n2_ := Aside0.mk (hbox); have n3_ := Aside0.mk ((by rw [hg]; exact (below_size (by repeat (first | (with_reducible first | exact HB.out | apply below_alloc | apply pw_below_drewN | apply below_drew1 | refine below_set ?_ GE629.out) | exact HB.out))) : w.heap.size ≤ gb630)); have n4_ := Aside0.mk ((by rw [hg]; exact (below_size (by repeat (first | (with_reducible first | exact HB.out | apply below_alloc | apply pw_below_drewN | apply below_drew1 | refine below_set ?_ GE629.out) | exact HB.out))) : w.heap.size ≤ gb630)); have n5_ := Aside0.mk ((by rw [hg]; exact Nat.ne_of_lt (blk_lt (g := gb629) (o := .cells #[.int .i64 a1_0, .int .i64 a1_1, .string a1_2] 31 (0, 0)) (by (with_reducible repeat (first | refine blk_drewN ?_ _ | refine blk_drew ?_ | refine blk_alloc ?_ _)); exact BK629.out)) : gb629 ≠ gb630)); have n6_ := Aside0.mk ((by rw [hg]; exact Nat.ne_of_gt (blk_lt (g := gb629) (o := .cells #[.int .i64 a1_0, .int .i64 a1_1, .string a1_2] 31 (0, 0)) (by (with_reducible repeat (first | refine blk_drewN ?_ _ | refine blk_drew ?_ | refine blk_alloc ?_ _)); exact BK629.out)) : gb630 ≠ gb629)); clear BK629; clear HB; have BK629 := n0_; have HB := n1_; have BK630 := n2_; have GW630 := n3_; have GE630 := n4_; have NB629_630 := n5_; have NB630_629 := n6_; clear n0_ n1_ n2_ n3_ n4_ n5_ n6_; clear hb hbox hg; have hnb8 := NB629_630.out; have hnc8 := NB630_629.out; have hcz9_0 : w7.cell? ⟨gb629, 0, none⟩ = some (.int .i64 a1_0) := (blk_cell BK629.out 0).trans rfl; have hcz9_1 : w7.cell? ⟨gb629, 1, none⟩ = some (.int .i64 a1_1) := (blk_cell BK629.out 1).trans rfl; have hcz9_2 : w7.cell? ⟨gb629, 2, none⟩ = some (.string a1_2) := (blk_cell BK629.out 2).trans rfl; have hfz9_0 := blk_frozen BK629.out 0; have hfz9_1 := blk_frozen BK629.out 1; have hfz9_2 := blk_frozen BK629.out 2) | ((with_reducible refine gate_callee (f := 19) rfl ?_); refine goesL_ (some 14) rfl rfl Try.func19 (by kernel_rfl) rfl #[.agg #[.int .i64 a1_0, .int .i64 a1_1, .string a1_2], .int .i64 1048576] rfl (by (try simp only [List.map_toArray, List.map_cons, List.map_nil]); first | done | rfl | (simp only [List.length_drop, List.length_take]; rfl)) ?_; (with_reducible refine (laws_szValue.calls a1_0 a1_1 a1_2 1048576 t631 _ A4.out).mono ?_); rintro e w10 ⟨rfl, hb⟩; refine ⟨_, rfl, ?_⟩; have n0_ := Aside0.mk (blk_below (g := gb629) (o := .cells #[.int .i64 a1_0, .int .i64 a1_1, .string a1_2] 31 (0, 0)) (by (with_reducible repeat (first | refine blk_drewN ?_ _ | refine blk_drew ?_ | refine blk_alloc ?_ _)); exact BK629.out) hb); have n1_ := Aside0.mk (blk_below (g := gb630) (o := .cells #[.int .i64 a2_0, .int .i64 a2_1, .string a2_2] 31 (0, 0)) (by (with_reducible repeat (first | refine blk_drewN ?_ _ | refine blk_drew ?_ | refine blk_alloc ?_ _)); exact BK630.out) hb); have n2_ := Aside0.mk (below_step (by repeat (first | (with_reducible first | exact HB.out | apply below_alloc | apply pw_below_drewN | apply below_drew1 | refine below_set ?_ GE629.out | refine below_set ?_ GE630.out) | exact HB.out)) hb); clear BK629; clear BK630; clear HB; have BK629 := n0_; have BK630 := n1_; have HB := n2_; clear n0_ n1_ n2_; (try clear hb); (try clear hb2); (try clear hk); (try clear hi)))
    go_ret
    exact ⟨by first | rfl | (simp [errW_none, errW_some] <;> rfl) | (simp [*, errW_none, errW_some] <;> rfl), by repeat (first | (with_reducible first | exact HB.out | apply below_alloc | apply pw_below_drewN | apply below_drew1 | refine below_set ?_ GE629.out | refine below_set ?_ GE630.out) | exact HB.out)⟩
  · rw [if_neg c5] at H
    have c5b0 : decide (t631 < 0) = false := decide_eq_false c5
    clear c5
    replace H := Option.bind_eq_some_iff.mp H
    obtain ⟨t632, A110, H⟩ := H
    replace H : (if t632 < 0 then (some true) else ((laws_toValue.f a1_0 a1_1 a1_2).bind fun bt633 => ((laws_toValue.f a2_0 a2_1 a2_2).bind fun bt636 => ((spec_Binary.f k a0 bt633.1 bt633.2.1 bt633.2.2 bt636.1 bt636.2.1 bt636.2.2).bind fun bt639 => ((laws_toValue.f a1_0 a1_1 a1_2).bind fun bt644 => ((laws_toValue.f a2_0 a2_1 a2_2).bind fun bt647 => ((impl_Binary.f k a0 bt644.1 bt644.2.1 bt644.2.2 bt647.1 bt647.2.1 bt647.2.2).bind fun bt650 => ((laws_eqValue.f bt650.1 bt650.2.1 bt650.2.2.1 bt639.1 bt639.2.1 bt639.2.2.1).bind fun t655 => (if t655 = true then (if bt650.2.2.2.toList = bt639.2.2.2.toList then (some true) else (some false)) else (some false)))))))))) = some r := H
    have A11 := Aside0.mk A110
    clear A110
    by_cases c12 : t632 < 0
    · rw [if_pos c12] at H
      have c12b0 : decide (t632 < 0) = true := decide_eq_true c12
      clear c12
      obtain rfl := Option.some.inj H
      simp only [Option.some.injEq, Prod.mk.injEq] at H
      obtain ⟨rfl⟩ := H
      go_enter Try.func14, Try.ntmps14
      go_wp2_with (first | ((with_reducible refine gate_dst (N := 4) rfl ?_); refine box_event ?hg (N := 4) ?hd (cs := #[.int .i64 a1_0, .int .i64 a1_1, .string a1_2]) (t := 31) ?hr ?_; (case hd => rfl); (case hg => rfl); (case hr => first | (go_simp; done) | (go_simp; rfl)); intro gb629 hg w13 hbox hb; have n0_ := Aside0.mk (below_step (by repeat (first | (with_reducible first | exact HB.out | apply below_alloc | apply pw_below_drewN | apply below_drew1) | exact HB.out)) hb); have n1_ := Aside0.mk (hbox); have n2_ := Aside0.mk ((by rw [hg]; exact (below_size (by repeat (first | (with_reducible first | exact HB.out | apply below_alloc | apply pw_below_drewN | apply below_drew1) | exact HB.out))) : w.heap.size ≤ gb629)); have n3_ := Aside0.mk ((by rw [hg]; exact (below_size (by repeat (first | (with_reducible first | exact HB.out | apply below_alloc | apply pw_below_drewN | apply below_drew1) | exact HB.out))) : w.heap.size ≤ gb629)); clear HB; have HB := n0_; have BK629 := n1_; have GW629 := n2_; have GE629 := n3_; clear n0_ n1_ n2_ n3_; clear hb hbox hg) | ((with_reducible refine gate_dst (N := 5) rfl ?_); refine box_event ?hg (N := 5) ?hd (cs := #[.int .i64 a2_0, .int .i64 a2_1, .string a2_2]) (t := 31) ?hr ?_; (case hd => rfl); (case hg => rfl); (case hr => first | (go_simp; done) | (go_simp; rfl)); intro gb630 hg w14 hbox hb; have n0_ := Aside0.mk (blk_below (g := gb629) (o := .cells #[.int .i64 a1_0, .int .i64 a1_1, .string a1_2] 31 (0, 0)) (by (with_reducible repeat (first | refine blk_drewN ?_ _ | refine blk_drew ?_ | refine blk_alloc ?_ _)); exact BK629.out) hb); have n1_ := Aside0.mk (below_step (by repeat (first | (with_reducible first | exact HB.out | apply below_alloc | apply pw_below_drewN | apply below_drew1 | refine below_set ?_ GE629.out) | exact HB.out)) hb); have n2_ := Aside0.mk (hbox); have n3_ := Aside0.mk ((by rw [hg]; exact (below_size (by repeat (first | (with_reducible first | exact HB.out | apply below_alloc | apply pw_below_drewN | apply below_drew1 | refine below_set ?_ GE629.out) | exact HB.out))) : w.heap.size ≤ gb630)); have n4_ := Aside0.mk ((by rw [hg]; exact (below_size (by repeat (first | (with_reducible first | exact HB.out | apply below_alloc | apply pw_below_drewN | apply below_drew1 | refine below_set ?_ GE629.out) | exact HB.out))) : w.heap.size ≤ gb630)); have n5_ := Aside0.mk ((by rw [hg]; exact Nat.ne_of_lt (blk_lt (g := gb629) (o := .cells #[.int .i64 a1_0, .int .i64 a1_1, .string a1_2] 31 (0, 0)) (by (with_reducible repeat (first | refine blk_drewN ?_ _ | refine blk_drew ?_ | refine blk_alloc ?_ _)); exact BK629.out)) : gb629 ≠ gb630)); have n6_ := Aside0.mk ((by rw [hg]; exact Nat.ne_of_gt (blk_lt (g := gb629) (o := .cells #[.int .i64 a1_0, .int .i64 a1_1, .string a1_2] 31 (0, 0)) (by (with_reducible repeat (first | refine blk_drewN ?_ _ | refine blk_drew ?_ | refine blk_alloc ?_ _)); exact BK629.out)) : gb630 ≠ gb629)); clear BK629; clear HB; have BK629 := n0_; have HB := n1_; have BK630 := n2_; have GW630 := n3_; have GE630 := n4_; have NB629_630 := n5_; have NB630_629 := n6_; clear n0_ n1_ n2_ n3_ n4_ n5_ n6_; clear hb hbox hg; have hnb15 := NB629_630.out; have hnc15 := NB630_629.out; have hcz16_0 : w14.cell? ⟨gb629, 0, none⟩ = some (.int .i64 a1_0) := (blk_cell BK629.out 0).trans rfl; have hcz16_1 : w14.cell? ⟨gb629, 1, none⟩ = some (.int .i64 a1_1) := (blk_cell BK629.out 1).trans rfl; have hcz16_2 : w14.cell? ⟨gb629, 2, none⟩ = some (.string a1_2) := (blk_cell BK629.out 2).trans rfl; have hfz16_0 := blk_frozen BK629.out 0; have hfz16_1 := blk_frozen BK629.out 1; have hfz16_2 := blk_frozen BK629.out 2) | ((with_reducible refine gate_callee (f := 19) rfl ?_); refine goesL_ (some 14) rfl rfl Try.func19 (by kernel_rfl) rfl #[.agg #[.int .i64 a1_0, .int .i64 a1_1, .string a1_2], .int .i64 1048576] rfl (by (try simp only [List.map_toArray, List.map_cons, List.map_nil]); first | done | rfl | (simp only [List.length_drop, List.length_take]; rfl)) ?_; (with_reducible refine (laws_szValue.calls a1_0 a1_1 a1_2 1048576 t631 _ A4.out).mono ?_); rintro e w17 ⟨rfl, hb⟩; refine ⟨_, rfl, ?_⟩; have n0_ := Aside0.mk (blk_below (g := gb629) (o := .cells #[.int .i64 a1_0, .int .i64 a1_1, .string a1_2] 31 (0, 0)) (by (with_reducible repeat (first | refine blk_drewN ?_ _ | refine blk_drew ?_ | refine blk_alloc ?_ _)); exact BK629.out) hb); have n1_ := Aside0.mk (blk_below (g := gb630) (o := .cells #[.int .i64 a2_0, .int .i64 a2_1, .string a2_2] 31 (0, 0)) (by (with_reducible repeat (first | refine blk_drewN ?_ _ | refine blk_drew ?_ | refine blk_alloc ?_ _)); exact BK630.out) hb); have n2_ := Aside0.mk (below_step (by repeat (first | (with_reducible first | exact HB.out | apply below_alloc | apply pw_below_drewN | apply below_drew1 | refine below_set ?_ GE629.out | refine below_set ?_ GE630.out) | exact HB.out)) hb); clear BK629; clear BK630; clear HB; have BK629 := n0_; have BK630 := n1_; have HB := n2_; clear n0_ n1_ n2_; (try clear hb); (try clear hb2); (try clear hk); (try clear hi); have hcz18_0 : w17.cell? ⟨gb630, 0, none⟩ = some (.int .i64 a2_0) := (blk_cell BK630.out 0).trans rfl; have hcz18_1 : w17.cell? ⟨gb630, 1, none⟩ = some (.int .i64 a2_1) := (blk_cell BK630.out 1).trans rfl; have hcz18_2 : w17.cell? ⟨gb630, 2, none⟩ = some (.string a2_2) := (blk_cell BK630.out 2).trans rfl; have hfz18_0 := blk_frozen BK630.out 0; have hfz18_1 := blk_frozen BK630.out 1; have hfz18_2 := blk_frozen BK630.out 2) | ((with_reducible refine gate_callee (f := 19) rfl ?_); refine goesL_ (some 19) rfl rfl Try.func19 (by kernel_rfl) rfl #[.agg #[.int .i64 a2_0, .int .i64 a2_1, .string a2_2], .int .i64 t631] rfl (by (try simp only [List.map_toArray, List.map_cons, List.map_nil]); first | done | rfl | (simp only [List.length_drop, List.length_take]; rfl)) ?_; (with_reducible refine (laws_szValue.calls a2_0 a2_1 a2_2 t631 t632 _ A11.out).mono ?_); rintro e w19 ⟨rfl, hb⟩; refine ⟨_, rfl, ?_⟩; have n0_ := Aside0.mk (blk_below (g := gb629) (o := .cells #[.int .i64 a1_0, .int .i64 a1_1, .string a1_2] 31 (0, 0)) (by (with_reducible repeat (first | refine blk_drewN ?_ _ | refine blk_drew ?_ | refine blk_alloc ?_ _)); exact BK629.out) hb); have n1_ := Aside0.mk (blk_below (g := gb630) (o := .cells #[.int .i64 a2_0, .int .i64 a2_1, .string a2_2] 31 (0, 0)) (by (with_reducible repeat (first | refine blk_drewN ?_ _ | refine blk_drew ?_ | refine blk_alloc ?_ _)); exact BK630.out) hb); have n2_ := Aside0.mk (below_step (by repeat (first | (with_reducible first | exact HB.out | apply below_alloc | apply pw_below_drewN | apply below_drew1 | refine below_set ?_ GE629.out | refine below_set ?_ GE630.out) | exact HB.out)) hb); clear BK629; clear BK630; clear HB; have BK629 := n0_; have BK630 := n1_; have HB := n2_; clear n0_ n1_ n2_; (try clear hb); (try clear hb2); (try clear hk); (try clear hi)))
      go_ret
      exact ⟨by first | rfl | (simp [errW_none, errW_some] <;> rfl) | (simp [*, errW_none, errW_some] <;> rfl), by repeat (first | (with_reducible first | exact HB.out | apply below_alloc | apply pw_below_drewN | apply below_drew1 | refine below_set ?_ GE629.out | refine below_set ?_ GE630.out) | exact HB.out)⟩
    · rw [if_neg c12] at H
      have c12b0 : decide (t632 < 0) = false := decide_eq_false c12
      clear c12
      replace H := Option.bind_eq_some_iff.mp H
      obtain ⟨⟨t633, t634, t635⟩, A200, H⟩ := H
      replace H : ((laws_toValue.f a2_0 a2_1 a2_2).bind fun bt636 => ((spec_Binary.f k a0 t633 t634 t635 bt636.1 bt636.2.1 bt636.2.2).bind fun bt639 => ((laws_toValue.f a1_0 a1_1 a1_2).bind fun bt644 => ((laws_toValue.f a2_0 a2_1 a2_2).bind fun bt647 => ((impl_Binary.f k a0 bt644.1 bt644.2.1 bt644.2.2 bt647.1 bt647.2.1 bt647.2.2).bind fun bt650 => ((laws_eqValue.f bt650.1 bt650.2.1 bt650.2.2.1 bt639.1 bt639.2.1 bt639.2.2.1).bind fun t655 => (if t655 = true then (if bt650.2.2.2.toList = bt639.2.2.2.toList then (some true) else (some false)) else (some false)))))))) = some r := H
      have A20 := Aside0.mk A200
      clear A200
      replace H := Option.bind_eq_some_iff.mp H
      obtain ⟨⟨t636, t637, t638⟩, A210, H⟩ := H
      replace H : ((spec_Binary.f k a0 t633 t634 t635 t636 t637 t638).bind fun bt639 => ((laws_toValue.f a1_0 a1_1 a1_2).bind fun bt644 => ((laws_toValue.f a2_0 a2_1 a2_2).bind fun bt647 => ((impl_Binary.f k a0 bt644.1 bt644.2.1 bt644.2.2 bt647.1 bt647.2.1 bt647.2.2).bind fun bt650 => ((laws_eqValue.f bt650.1 bt650.2.1 bt650.2.2.1 bt639.1 bt639.2.1 bt639.2.2.1).bind fun t655 => (if t655 = true then (if bt650.2.2.2.toList = bt639.2.2.2.toList then (some true) else (some false)) else (some false))))))) = some r := H
      have A21 := Aside0.mk A210
      clear A210
      replace H := Option.bind_eq_some_iff.mp H
      obtain ⟨⟨t639, t640, t641, t642⟩, A220, H⟩ := H
      replace H : ((laws_toValue.f a1_0 a1_1 a1_2).bind fun bt644 => ((laws_toValue.f a2_0 a2_1 a2_2).bind fun bt647 => ((impl_Binary.f k a0 bt644.1 bt644.2.1 bt644.2.2 bt647.1 bt647.2.1 bt647.2.2).bind fun bt650 => ((laws_eqValue.f bt650.1 bt650.2.1 bt650.2.2.1 t639 t640 t641).bind fun t655 => (if t655 = true then (if bt650.2.2.2.toList = t642.toList then (some true) else (some false)) else (some false)))))) = some r := H
      have A22 := Aside0.mk A220
      clear A220
      replace H := Option.bind_eq_some_iff.mp H
      obtain ⟨⟨t644, t645, t646⟩, A230, H⟩ := H
      replace H : ((laws_toValue.f a2_0 a2_1 a2_2).bind fun bt647 => ((impl_Binary.f k a0 t644 t645 t646 bt647.1 bt647.2.1 bt647.2.2).bind fun bt650 => ((laws_eqValue.f bt650.1 bt650.2.1 bt650.2.2.1 t639 t640 t641).bind fun t655 => (if t655 = true then (if bt650.2.2.2.toList = t642.toList then (some true) else (some false)) else (some false))))) = some r := H
      have A23 := Aside0.mk A230
      clear A230
      replace H := Option.bind_eq_some_iff.mp H
      obtain ⟨⟨t647, t648, t649⟩, A240, H⟩ := H
      replace H : ((impl_Binary.f k a0 t644 t645 t646 t647 t648 t649).bind fun bt650 => ((laws_eqValue.f bt650.1 bt650.2.1 bt650.2.2.1 t639 t640 t641).bind fun t655 => (if t655 = true then (if bt650.2.2.2.toList = t642.toList then (some true) else (some false)) else (some false)))) = some r := H
      have A24 := Aside0.mk A240
      clear A240
      replace H := Option.bind_eq_some_iff.mp H
      obtain ⟨⟨t650, t651, t652, t653⟩, A250, H⟩ := H
      replace H : ((laws_eqValue.f t650 t651 t652 t639 t640 t641).bind fun t655 => (if t655 = true then (if t653.toList = t642.toList then (some true) else (some false)) else (some false))) = some r := H
      have A25 := Aside0.mk A250
      clear A250
      replace H := Option.bind_eq_some_iff.mp H
      obtain ⟨t655, A260, H⟩ := H
      replace H : (if t655 = true then (if t653.toList = t642.toList then (some true) else (some false)) else (some false)) = some r := H
      have A26 := Aside0.mk A260
      clear A260
      by_cases c27 : t655 = true
      · subst c27
        have H1 : (if t653.toList = t642.toList then (some true) else (some false)) = some r := by rw [if_pos rfl] at H; exact H
        clear H
        have H := H1
        clear H1
        by_cases c28 : t653.toList = t642.toList
        · rw [if_pos c28] at H
          have c28b0 : (t653.toList == t642.toList) = true := beq_iff_eq.mpr c28
          have c28b1 : (t653.toList != t642.toList) = false := bne_eq_false_iff_eq.mpr c28
          clear c28
          obtain rfl := Option.some.inj H
          simp only [Option.some.injEq, Prod.mk.injEq] at H
          obtain ⟨rfl⟩ := H
          go_enter Try.func14, Try.ntmps14
          try go_wp2_with (first | ((with_reducible refine gate_dst (N := 4) rfl ?_); refine box_event ?hg (N := 4) ?hd (cs := #[.int .i64 a1_0, .int .i64 a1_1, .string a1_2]) (t := 31) ?hr ?_; (case hd => rfl); (case hg => rfl); (case hr => first | (go_simp; done) | (go_simp; rfl)); intro gb629 hg w29 hbox hb; have n0_ := Aside0.mk (below_step (by repeat (first | (with_reducible first | exact HB.out | apply below_alloc | apply pw_below_drewN | apply below_drew1) | exact HB.out)) hb); have n1_ := Aside0.mk (hbox); have n2_ := Aside0.mk ((by rw [hg]; exact (below_size (by repeat (first | (with_reducible first | exact HB.out | apply below_alloc | apply pw_below_drewN | apply below_drew1) | exact HB.out))) : w.heap.size ≤ gb629)); have n3_ := Aside0.mk ((by rw [hg]; exact (below_size (by repeat (first | (with_reducible first | exact HB.out | apply below_alloc | apply pw_below_drewN | apply below_drew1) | exact HB.out))) : w.heap.size ≤ gb629)); clear HB; have HB := n0_; have BK629 := n1_; have GW629 := n2_; have GE629 := n3_; clear n0_ n1_ n2_ n3_; clear hb hbox hg) | ((with_reducible refine gate_dst (N := 5) rfl ?_); refine box_event ?hg (N := 5) ?hd (cs := #[.int .i64 a2_0, .int .i64 a2_1, .string a2_2]) (t := 31) ?hr ?_; (case hd => rfl); (case hg => rfl); (case hr => first | (go_simp; done) | (go_simp; rfl)); intro gb630 hg w30 hbox hb; have n0_ := Aside0.mk (blk_below (g := gb629) (o := .cells #[.int .i64 a1_0, .int .i64 a1_1, .string a1_2] 31 (0, 0)) (by (with_reducible repeat (first | refine blk_drewN ?_ _ | refine blk_drew ?_ | refine blk_alloc ?_ _)); exact BK629.out) hb); have n1_ := Aside0.mk (below_step (by repeat (first | (with_reducible first | exact HB.out | apply below_alloc | apply pw_below_drewN | apply below_drew1 | refine below_set ?_ GE629.out) | exact HB.out)) hb); have n2_ := Aside0.mk (hbox); have n3_ := Aside0.mk ((by rw [hg]; exact (below_size (by repeat (first | (with_reducible first | exact HB.out | apply below_alloc | apply pw_below_drewN | apply below_drew1 | refine below_set ?_ GE629.out) | exact HB.out))) : w.heap.size ≤ gb630)); have n4_ := Aside0.mk ((by rw [hg]; exact (below_size (by repeat (first | (with_reducible first | exact HB.out | apply below_alloc | apply pw_below_drewN | apply below_drew1 | refine below_set ?_ GE629.out) | exact HB.out))) : w.heap.size ≤ gb630)); have n5_ := Aside0.mk ((by rw [hg]; exact Nat.ne_of_lt (blk_lt (g := gb629) (o := .cells #[.int .i64 a1_0, .int .i64 a1_1, .string a1_2] 31 (0, 0)) (by (with_reducible repeat (first | refine blk_drewN ?_ _ | refine blk_drew ?_ | refine blk_alloc ?_ _)); exact BK629.out)) : gb629 ≠ gb630)); have n6_ := Aside0.mk ((by rw [hg]; exact Nat.ne_of_gt (blk_lt (g := gb629) (o := .cells #[.int .i64 a1_0, .int .i64 a1_1, .string a1_2] 31 (0, 0)) (by (with_reducible repeat (first | refine blk_drewN ?_ _ | refine blk_drew ?_ | refine blk_alloc ?_ _)); exact BK629.out)) : gb630 ≠ gb629)); clear BK629; clear HB; have BK629 := n0_; have HB := n1_; have BK630 := n2_; have GW630 := n3_; have GE630 := n4_; have NB629_630 := n5_; have NB630_629 := n6_; clear n0_ n1_ n2_ n3_ n4_ n5_ n6_; clear hb hbox hg; have hnb31 := NB629_630.out; have hnc31 := NB630_629.out; have hcz32_0 : w30.cell? ⟨gb629, 0, none⟩ = some (.int .i64 a1_0) := (blk_cell BK629.out 0).trans rfl; have hcz32_1 : w30.cell? ⟨gb629, 1, none⟩ = some (.int .i64 a1_1) := (blk_cell BK629.out 1).trans rfl; have hcz32_2 : w30.cell? ⟨gb629, 2, none⟩ = some (.string a1_2) := (blk_cell BK629.out 2).trans rfl; have hfz32_0 := blk_frozen BK629.out 0; have hfz32_1 := blk_frozen BK629.out 1; have hfz32_2 := blk_frozen BK629.out 2) | ((with_reducible refine gate_callee (f := 19) rfl ?_); refine goesL_ (some 14) rfl rfl Try.func19 (by kernel_rfl) rfl #[.agg #[.int .i64 a1_0, .int .i64 a1_1, .string a1_2], .int .i64 1048576] rfl (by (try simp only [List.map_toArray, List.map_cons, List.map_nil]); first | done | rfl | (simp only [List.length_drop, List.length_take]; rfl)) ?_; (with_reducible refine (laws_szValue.calls a1_0 a1_1 a1_2 1048576 t631 _ A4.out).mono ?_); rintro e w33 ⟨rfl, hb⟩; refine ⟨_, rfl, ?_⟩; have n0_ := Aside0.mk (blk_below (g := gb629) (o := .cells #[.int .i64 a1_0, .int .i64 a1_1, .string a1_2] 31 (0, 0)) (by (with_reducible repeat (first | refine blk_drewN ?_ _ | refine blk_drew ?_ | refine blk_alloc ?_ _)); exact BK629.out) hb); have n1_ := Aside0.mk (blk_below (g := gb630) (o := .cells #[.int .i64 a2_0, .int .i64 a2_1, .string a2_2] 31 (0, 0)) (by (with_reducible repeat (first | refine blk_drewN ?_ _ | refine blk_drew ?_ | refine blk_alloc ?_ _)); exact BK630.out) hb); have n2_ := Aside0.mk (below_step (by repeat (first | (with_reducible first | exact HB.out | apply below_alloc | apply pw_below_drewN | apply below_drew1 | refine below_set ?_ GE629.out | refine below_set ?_ GE630.out) | exact HB.out)) hb); clear BK629; clear BK630; clear HB; have BK629 := n0_; have BK630 := n1_; have HB := n2_; clear n0_ n1_ n2_; (try clear hb); (try clear hb2); (try clear hk); (try clear hi); have hcz34_0 : w33.cell? ⟨gb630, 0, none⟩ = some (.int .i64 a2_0) := (blk_cell BK630.out 0).trans rfl; have hcz34_1 : w33.cell? ⟨gb630, 1, none⟩ = some (.int .i64 a2_1) := (blk_cell BK630.out 1).trans rfl; have hcz34_2 : w33.cell? ⟨gb630, 2, none⟩ = some (.string a2_2) := (blk_cell BK630.out 2).trans rfl; have hfz34_0 := blk_frozen BK630.out 0; have hfz34_1 := blk_frozen BK630.out 1; have hfz34_2 := blk_frozen BK630.out 2) | ((with_reducible refine gate_callee (f := 19) rfl ?_); refine goesL_ (some 19) rfl rfl Try.func19 (by kernel_rfl) rfl #[.agg #[.int .i64 a2_0, .int .i64 a2_1, .string a2_2], .int .i64 t631] rfl (by (try simp only [List.map_toArray, List.map_cons, List.map_nil]); first | done | rfl | (simp only [List.length_drop, List.length_take]; rfl)) ?_; (with_reducible refine (laws_szValue.calls a2_0 a2_1 a2_2 t631 t632 _ A11.out).mono ?_); rintro e w35 ⟨rfl, hb⟩; refine ⟨_, rfl, ?_⟩; have n0_ := Aside0.mk (blk_below (g := gb629) (o := .cells #[.int .i64 a1_0, .int .i64 a1_1, .string a1_2] 31 (0, 0)) (by (with_reducible repeat (first | refine blk_drewN ?_ _ | refine blk_drew ?_ | refine blk_alloc ?_ _)); exact BK629.out) hb); have n1_ := Aside0.mk (blk_below (g := gb630) (o := .cells #[.int .i64 a2_0, .int .i64 a2_1, .string a2_2] 31 (0, 0)) (by (with_reducible repeat (first | refine blk_drewN ?_ _ | refine blk_drew ?_ | refine blk_alloc ?_ _)); exact BK630.out) hb); have n2_ := Aside0.mk (below_step (by repeat (first | (with_reducible first | exact HB.out | apply below_alloc | apply pw_below_drewN | apply below_drew1 | refine below_set ?_ GE629.out | refine below_set ?_ GE630.out) | exact HB.out)) hb); clear BK629; clear BK630; clear HB; have BK629 := n0_; have BK630 := n1_; have HB := n2_; clear n0_ n1_ n2_; (try clear hb); (try clear hb2); (try clear hk); (try clear hi)))
          have n0_ := Aside0.mk (blk_drew BK629.out)
          have n1_ := Aside0.mk (blk_drew BK630.out)
          have n2_ := Aside0.mk (below_drew1 HB.out)
          clear BK629
          clear BK630
          clear HB
          have BK629 := n0_
          have BK630 := n1_
          have HB := n2_
          clear n0_ n1_ n2_
          refine start_ (n := 12) (S := fun w' => w'.cell? ⟨gb629, 0, none⟩ = some (.int .i64 a1_0) ∧ w'.cell? ⟨gb629, 1, none⟩ = some (.int .i64 a1_1) ∧ w'.cell? ⟨gb629, 2, none⟩ = some (.string a1_2) ∧ w'.cell? ⟨gb630, 0, none⟩ = some (.int .i64 a2_0) ∧ w'.cell? ⟨gb630, 1, none⟩ = some (.int .i64 a2_1) ∧ w'.cell? ⟨gb630, 2, none⟩ = some (.string a2_2)) (ds := []) #[false, false, false, false, false, false, false, false, false, false, false, false] (by kernel_rfl) rfl rfl ⟨(blk_cell BK629.out 0).trans rfl, (blk_cell BK629.out 1).trans rfl, (blk_cell BK629.out 2).trans rfl, (blk_cell BK630.out 0).trans rfl, (blk_cell BK630.out 1).trans rfl, (blk_cell BK630.out 2).trans rfl⟩ (fun hHeld => ?_); refine with_tabW laws_FnExactBinary.tab8 laws_FnExactBinary.bits8 (fun HT_ HW_ => ?_)
          generalize w35.drew = w36 at BK629 BK630 HB hHeld ⊢
          refine pure_ (i := 0) (N := some 23) (v := ?_) (a' := ?_) #[true, false, false, false, false, false, false, false, false, false, false, false] rfl rfl (any_of HT_.out (by kernel_rfl)) (fun _ _ _ h => h) (Or.inl ⟨by rfl, ?_⟩) ?_ ?_
          rotate_left
          · intro w'
            go_simp
            with_reducible rfl
          rotate_left
          · simp only [Act.put, List.setIfInBounds_toArray, List.set_cons_zero, List.set_cons_succ, i64_w, i32_w]
            rfl
          refine take_ (i := 1) (N := some 24) (v := ?_) (a' := ?_) #[true, true, false, false, false, false, false, false, false, false, false, false] rfl rfl (take_ofW HT_.out HW_.out (by kernel_rfl)) (fun _ _ _ h => h) (Or.inl ⟨by rfl, ?_⟩) hHeld ?_ ?_
          rotate_left
          · rintro w' ⟨s0, s1, s2, s3, s4, s5⟩
            go_simp
            with_reducible rfl
          rotate_left
          · simp only [Act.put, List.setIfInBounds_toArray, List.set_cons_zero, List.set_cons_succ, i64_w, i32_w]
            rfl
          refine take_ (i := 3) (N := some 26) (v := ?_) (a' := ?_) #[true, true, false, true, false, false, false, false, false, false, false, false] rfl rfl (take_ofW HT_.out HW_.out (by kernel_rfl)) (fun _ _ _ h => h) (Or.inl ⟨by rfl, ?_⟩) hHeld ?_ ?_
          rotate_left
          · rintro w' ⟨s0, s1, s2, s3, s4, s5⟩
            go_simp
            with_reducible rfl
          rotate_left
          · simp only [Act.put, List.setIfInBounds_toArray, List.set_cons_zero, List.set_cons_succ, i64_w, i32_w]
            rfl
          refine join_ (σ := Nat) 2 #[true, true, true, true, true, true, true, true, true, true, false, false] (fun s_ => [(25, .agg #[.int .i64 t633, .int .i64 t634, .string t635]), (27, .agg #[.int .i64 t636, .int .i64 t637, .string t638]), (28, .tuple #[.agg #[.int .i64 t639, .int .i64 t640, .string t641], .string t642]), (8, .pointer (some ⟨s_, 0, none⟩)), (22, .tuple #[.agg #[.int .i64 t639, .int .i64 t640, .string t641], .string t642]), (29, .agg #[.int .i64 t639, .int .i64 t640, .string t641]), (30, .string t642)]) (fun s_ w' => (w'.cell? ⟨gb629, 0, none⟩ = some (.int .i64 a1_0) ∧ w'.cell? ⟨gb629, 1, none⟩ = some (.int .i64 a1_1) ∧ w'.cell? ⟨gb629, 2, none⟩ = some (.string a1_2) ∧ w'.cell? ⟨gb630, 0, none⟩ = some (.int .i64 a2_0) ∧ w'.cell? ⟨gb630, 1, none⟩ = some (.int .i64 a2_1) ∧ w'.cell? ⟨gb630, 2, none⟩ = some (.string a2_2)) ∧ (w'.heap[gb629]? = some (.cells #[.int .i64 a1_0, .int .i64 a1_1, .string a1_2] 31 (0, 0))) ∧ (w'.heap[gb630]? = some (.cells #[.int .i64 a2_0, .int .i64 a2_1, .string a2_2] 31 (0, 0))) ∧ (w'.heap[s_]? = some (.cells #[.int .i64 0, .int .i64 0, .string (⟨#[]⟩ : ByteArray)] 34 (0, 0))) ∧ (w.heap.size ≤ s_) ∧ (w.heap.size ≤ s_) ∧ (gb629 ≠ s_) ∧ (s_ ≠ gb629) ∧ (gb630 ≠ s_) ∧ (s_ ≠ gb630) ∧ (Below w.heap.size w w')) ?_ ?_
          rotate_left
          · intro hCont
            refine two_ (i := 2) (j := 9) (Ni := some 25) (Nj := some 8) #[true, true, true, true, false, false, false, false, false, false, false, false] #[true, true, false, true, false, false, false, false, false, true, false, false] rfl rfl rfl rfl (two_of HT_.out (by kernel_rfl)) (by decide) (by decide) (fun K hK => ?_) (fun K hK => ?_)
            · skip
              refine goes_ Try.func21 (by kernel_rfl) rfl #[.agg #[.int .i64 a1_0, .int .i64 a1_1, .string a1_2]] (by rfl) rfl rfl (by (try simp only [List.map_toArray, List.map_cons, List.map_nil]); first | done | rfl | (simp only [List.length_drop, List.length_take]; rfl)) ?_
              with_reducible refine (laws_toValue.calls a1_0 a1_1 a1_2 t633 t634 t635 _ A20.out).mono ?_
              rintro e w37 ⟨rfl, hb⟩
              refine ⟨_, rfl, ?_⟩
              have n0_ := Aside0.mk (blk_below (g := gb629) (o := .cells #[.int .i64 a1_0, .int .i64 a1_1, .string a1_2] 31 (0, 0)) (by (with_reducible repeat (first | refine blk_drewN ?_ _ | refine blk_drew ?_ | refine blk_alloc ?_ _)); exact BK629.out) hb)
              have n1_ := Aside0.mk (blk_below (g := gb630) (o := .cells #[.int .i64 a2_0, .int .i64 a2_1, .string a2_2] 31 (0, 0)) (by (with_reducible repeat (first | refine blk_drewN ?_ _ | refine blk_drew ?_ | refine blk_alloc ?_ _)); exact BK630.out) hb)
              have n2_ := Aside0.mk (below_step (by repeat (first | (with_reducible first | exact HB.out | apply below_alloc | apply pw_below_drewN | apply below_drew1 | refine below_set ?_ GE629.out | refine below_set ?_ GE630.out) | exact HB.out)) hb)
              clear BK629
              clear BK630
              clear HB
              have BK629 := n0_
              have BK630 := n1_
              have HB := n2_
              clear n0_ n1_ n2_
              (try clear hb)
              (try clear hb2)
              (try clear hk)
              (try clear hi)
              refine hK.out _ _ ⟨(blk_cell BK629.out 0).trans rfl, (blk_cell BK629.out 1).trans rfl, (blk_cell BK629.out 2).trans rfl, (blk_cell BK630.out 0).trans rfl, (blk_cell BK630.out 1).trans rfl, (blk_cell BK630.out 2).trans rfl⟩ (fun hHeld => ?_)
              clear hK K
              refine norm_ (a' := ?_) ?_ ?_
              rotate_left
              · show Act.put _ (some 25) _ = _
                simp only [Act.put, List.setIfInBounds_toArray, List.set_cons_zero, List.set_cons_succ, i64_w, i32_w]
                rfl
              refine two_ (i := 4) (j := 9) (Ni := some 27) (Nj := some 8) #[true, true, true, true, true, false, false, false, false, false, false, false] #[true, true, true, true, false, false, false, false, false, true, false, false] rfl rfl rfl rfl (two_of HT_.out (by kernel_rfl)) (by decide) (by decide) (fun K hK => ?_) (fun K hK => ?_)
              · skip
                refine goes_ Try.func21 (by kernel_rfl) rfl #[.agg #[.int .i64 a2_0, .int .i64 a2_1, .string a2_2]] (by rfl) rfl rfl (by (try simp only [List.map_toArray, List.map_cons, List.map_nil]); first | done | rfl | (simp only [List.length_drop, List.length_take]; rfl)) ?_
                with_reducible refine (laws_toValue.calls a2_0 a2_1 a2_2 t636 t637 t638 _ A21.out).mono ?_
                rintro e w38 ⟨rfl, hb⟩
                refine ⟨_, rfl, ?_⟩
                have n0_ := Aside0.mk (blk_below (g := gb629) (o := .cells #[.int .i64 a1_0, .int .i64 a1_1, .string a1_2] 31 (0, 0)) (by (with_reducible repeat (first | refine blk_drewN ?_ _ | refine blk_drew ?_ | refine blk_alloc ?_ _)); exact BK629.out) hb)
                have n1_ := Aside0.mk (blk_below (g := gb630) (o := .cells #[.int .i64 a2_0, .int .i64 a2_1, .string a2_2] 31 (0, 0)) (by (with_reducible repeat (first | refine blk_drewN ?_ _ | refine blk_drew ?_ | refine blk_alloc ?_ _)); exact BK630.out) hb)
                have n2_ := Aside0.mk (below_step (by repeat (first | (with_reducible first | exact HB.out | apply below_alloc | apply pw_below_drewN | apply below_drew1 | refine below_set ?_ GE629.out | refine below_set ?_ GE630.out) | exact HB.out)) hb)
                clear BK629
                clear BK630
                clear HB
                have BK629 := n0_
                have BK630 := n1_
                have HB := n2_
                clear n0_ n1_ n2_
                (try clear hb)
                (try clear hb2)
                (try clear hk)
                (try clear hi)
                refine hK.out _ _ ⟨(blk_cell BK629.out 0).trans rfl, (blk_cell BK629.out 1).trans rfl, (blk_cell BK629.out 2).trans rfl, (blk_cell BK630.out 0).trans rfl, (blk_cell BK630.out 1).trans rfl, (blk_cell BK630.out 2).trans rfl⟩ (fun hHeld => ?_)
                clear hK K
                refine norm_ (a' := ?_) ?_ ?_
                rotate_left
                · show Act.put _ (some 27) _ = _
                  simp only [Act.put, List.setIfInBounds_toArray, List.set_cons_zero, List.set_cons_succ, i64_w, i32_w]
                  rfl
                refine two_ (i := 5) (j := 9) (Ni := some 28) (Nj := some 8) #[true, true, true, true, true, true, false, false, false, false, false, false] #[true, true, true, true, true, false, false, false, false, true, false, false] rfl rfl rfl rfl (two_of HT_.out (by kernel_rfl)) (by decide) (by decide) (fun K hK => ?_) (fun K hK => ?_)
                · skip
                  refine goes_ Try.func56 (by kernel_rfl) rfl #[.int .i64 a0, .agg #[.int .i64 t633, .int .i64 t634, .string t635], .agg #[.int .i64 t636, .int .i64 t637, .string t638]] (by rfl) rfl rfl (by (try simp only [List.map_toArray, List.map_cons, List.map_nil]); first | done | rfl | (simp only [List.length_drop, List.length_take]; rfl)) ?_
                  with_reducible refine (spec_Binary.calls k a0 t633 t634 t635 t636 t637 t638 t639 t640 t641 t642 _ A22.out).mono ?_
                  rintro e w39 ⟨rfl, hb⟩
                  refine ⟨_, rfl, ?_⟩
                  have n0_ := Aside0.mk (blk_below (g := gb629) (o := .cells #[.int .i64 a1_0, .int .i64 a1_1, .string a1_2] 31 (0, 0)) (by (with_reducible repeat (first | refine blk_drewN ?_ _ | refine blk_drew ?_ | refine blk_alloc ?_ _)); exact BK629.out) hb)
                  have n1_ := Aside0.mk (blk_below (g := gb630) (o := .cells #[.int .i64 a2_0, .int .i64 a2_1, .string a2_2] 31 (0, 0)) (by (with_reducible repeat (first | refine blk_drewN ?_ _ | refine blk_drew ?_ | refine blk_alloc ?_ _)); exact BK630.out) hb)
                  have n2_ := Aside0.mk (below_step (by repeat (first | (with_reducible first | exact HB.out | apply below_alloc | apply pw_below_drewN | apply below_drew1 | refine below_set ?_ GE629.out | refine below_set ?_ GE630.out) | exact HB.out)) hb)
                  clear BK629
                  clear BK630
                  clear HB
                  have BK629 := n0_
                  have BK630 := n1_
                  have HB := n2_
                  clear n0_ n1_ n2_
                  (try clear hb)
                  (try clear hb2)
                  (try clear hk)
                  (try clear hi)
                  refine hK.out _ _ ⟨(blk_cell BK629.out 0).trans rfl, (blk_cell BK629.out 1).trans rfl, (blk_cell BK629.out 2).trans rfl, (blk_cell BK630.out 0).trans rfl, (blk_cell BK630.out 1).trans rfl, (blk_cell BK630.out 2).trans rfl⟩ (fun hHeld => ?_)
                  clear hK K
                  refine norm_ (a' := ?_) ?_ ?_
                  rotate_left
                  · show Act.put _ (some 28) _ = _
                    simp only [Act.put, List.setIfInBounds_toArray, List.set_cons_zero, List.set_cons_succ, i64_w, i32_w]
                    rfl
                  refine pure_ (i := 6) (N := some 22) (v := ?_) (a' := ?_) #[true, true, true, true, true, true, true, false, false, false, false, false] rfl rfl (any_of HT_.out (by kernel_rfl)) (fun _ _ _ h => h) (Or.inl ⟨by rfl, ?_⟩) ?_ ?_
                  rotate_left
                  · intro w'
                    go_simp
                    with_reducible rfl
                  rotate_left
                  · simp only [Act.put, List.setIfInBounds_toArray, List.set_cons_zero, List.set_cons_succ, i64_w, i32_w]
                    rfl
                  refine pure_ (i := 7) (N := some 29) (v := ?_) (a' := ?_) #[true, true, true, true, true, true, true, true, false, false, false, false] rfl rfl (any_of HT_.out (by kernel_rfl)) (fun _ _ _ h => h) (Or.inl ⟨by rfl, ?_⟩) ?_ ?_
                  rotate_left
                  · intro w'
                    go_simp
                    with_reducible rfl
                  rotate_left
                  · simp only [Act.put, List.setIfInBounds_toArray, List.set_cons_zero, List.set_cons_succ, i64_w, i32_w]
                    rfl
                  refine pure_ (i := 8) (N := some 30) (v := ?_) (a' := ?_) #[true, true, true, true, true, true, true, true, true, false, false, false] rfl rfl (any_of HT_.out (by kernel_rfl)) (fun _ _ _ h => h) (Or.inl ⟨by rfl, ?_⟩) ?_ ?_
                  rotate_left
                  · intro w'
                    go_simp
                    with_reducible rfl
                  rotate_left
                  · simp only [Act.put, List.setIfInBounds_toArray, List.set_cons_zero, List.set_cons_succ, i64_w, i32_w]
                    rfl
                  refine one_ (i := 9) (N := some 8) #[true, true, true, true, true, true, true, true, true, true, false, false] rfl rfl (one_of HT_.out (by kernel_rfl)) (by decide) (fun K hK => ?_)
                  refine box_step ?hg (N := 8) ?hd (cs := #[.int .i64 0, .int .i64 0, .string (⟨#[]⟩ : ByteArray)]) (t := 34) ?hr ?_; (case hd => rfl); (case hg => rfl); (case hr => first | (go_simp; done) | (go_simp; rfl))
                  intro gb643 hg w40 hbox hb
                  have n0_ := Aside0.mk (blk_below (g := gb629) (o := .cells #[.int .i64 a1_0, .int .i64 a1_1, .string a1_2] 31 (0, 0)) (by (with_reducible repeat (first | refine blk_drewN ?_ _ | refine blk_drew ?_ | refine blk_alloc ?_ _)); exact BK629.out) hb)
                  have n1_ := Aside0.mk (blk_below (g := gb630) (o := .cells #[.int .i64 a2_0, .int .i64 a2_1, .string a2_2] 31 (0, 0)) (by (with_reducible repeat (first | refine blk_drewN ?_ _ | refine blk_drew ?_ | refine blk_alloc ?_ _)); exact BK630.out) hb)
                  have n2_ := Aside0.mk (below_step (by repeat (first | (with_reducible first | exact HB.out | apply below_alloc | apply pw_below_drewN | apply below_drew1 | refine below_set ?_ GE629.out | refine below_set ?_ GE630.out) | exact HB.out)) hb)
                  have n3_ := Aside0.mk (hbox)
                  have n4_ := Aside0.mk ((by rw [hg]; exact (below_size (by repeat (first | (with_reducible first | exact HB.out | apply below_alloc | apply pw_below_drewN | apply below_drew1 | refine below_set ?_ GE629.out | refine below_set ?_ GE630.out) | exact HB.out))) : w.heap.size ≤ gb643))
                  have n5_ := Aside0.mk ((by rw [hg]; exact (below_size (by repeat (first | (with_reducible first | exact HB.out | apply below_alloc | apply pw_below_drewN | apply below_drew1 | refine below_set ?_ GE629.out | refine below_set ?_ GE630.out) | exact HB.out))) : w.heap.size ≤ gb643))
                  have n6_ := Aside0.mk ((by rw [hg]; exact Nat.ne_of_lt (blk_lt (g := gb629) (o := .cells #[.int .i64 a1_0, .int .i64 a1_1, .string a1_2] 31 (0, 0)) (by (with_reducible repeat (first | refine blk_drewN ?_ _ | refine blk_drew ?_ | refine blk_alloc ?_ _)); exact BK629.out)) : gb629 ≠ gb643))
                  have n7_ := Aside0.mk ((by rw [hg]; exact Nat.ne_of_gt (blk_lt (g := gb629) (o := .cells #[.int .i64 a1_0, .int .i64 a1_1, .string a1_2] 31 (0, 0)) (by (with_reducible repeat (first | refine blk_drewN ?_ _ | refine blk_drew ?_ | refine blk_alloc ?_ _)); exact BK629.out)) : gb643 ≠ gb629))
                  have n8_ := Aside0.mk ((by rw [hg]; exact Nat.ne_of_lt (blk_lt (g := gb630) (o := .cells #[.int .i64 a2_0, .int .i64 a2_1, .string a2_2] 31 (0, 0)) (by (with_reducible repeat (first | refine blk_drewN ?_ _ | refine blk_drew ?_ | refine blk_alloc ?_ _)); exact BK630.out)) : gb630 ≠ gb643))
                  have n9_ := Aside0.mk ((by rw [hg]; exact Nat.ne_of_gt (blk_lt (g := gb630) (o := .cells #[.int .i64 a2_0, .int .i64 a2_1, .string a2_2] 31 (0, 0)) (by (with_reducible repeat (first | refine blk_drewN ?_ _ | refine blk_drew ?_ | refine blk_alloc ?_ _)); exact BK630.out)) : gb643 ≠ gb630))
                  clear BK629
                  clear BK630
                  clear HB
                  have BK629 := n0_
                  have BK630 := n1_
                  have HB := n2_
                  have BK643 := n3_
                  have GW643 := n4_
                  have GE643 := n5_
                  have NB629_643 := n6_
                  have NB643_629 := n7_
                  have NB630_643 := n8_
                  have NB643_630 := n9_
                  clear n0_ n1_ n2_ n3_ n4_ n5_ n6_ n7_ n8_ n9_
                  clear hb hbox hg
                  refine hK.out _ _ ⟨(blk_cell BK629.out 0).trans rfl, (blk_cell BK629.out 1).trans rfl, (blk_cell BK629.out 2).trans rfl, (blk_cell BK630.out 0).trans rfl, (blk_cell BK630.out 1).trans rfl, (blk_cell BK630.out 2).trans rfl⟩ (fun hHeld => ?_)
                  clear hK K
                  refine norm_ (a' := ?_) ?_ ?_
                  rotate_left
                  · show Act.put _ (some 8) _ = _
                    simp only [Act.put, List.setIfInBounds_toArray, List.set_cons_zero, List.set_cons_succ, i64_w, i32_w]
                    rfl
                  exact norm_ (by simp only [putAll, Act.put, List.setIfInBounds_toArray, List.set_cons_zero, List.set_cons_succ]) (hCont (gb643) _ ⟨hHeld, (by (with_reducible repeat (first | refine blk_drewN ?_ _ | refine blk_drew ?_ | refine blk_alloc ?_ _)); exact BK629.out), (by (with_reducible repeat (first | refine blk_drewN ?_ _ | refine blk_drew ?_ | refine blk_alloc ?_ _)); exact BK630.out), (by (with_reducible repeat (first | refine blk_drewN ?_ _ | refine blk_drew ?_ | refine blk_alloc ?_ _)); exact BK643.out), GW643.out, GE643.out, NB629_643.out, NB643_629.out, NB630_643.out, NB643_630.out, (by repeat (first | (with_reducible first | exact HB.out | apply below_alloc | apply pw_below_drewN | apply below_drew1 | refine below_set ?_ GE629.out | refine below_set ?_ GE630.out | refine below_set ?_ GE643.out) | exact HB.out))⟩)
                · skip
                  refine box_step ?hg (N := 8) ?hd (cs := #[.int .i64 0, .int .i64 0, .string (⟨#[]⟩ : ByteArray)]) (t := 34) ?hr ?_; (case hd => rfl); (case hg => rfl); (case hr => first | (go_simp; done) | (go_simp; rfl))
                  intro gb643 hg w39 hbox hb
                  have n0_ := Aside0.mk (blk_below (g := gb629) (o := .cells #[.int .i64 a1_0, .int .i64 a1_1, .string a1_2] 31 (0, 0)) (by (with_reducible repeat (first | refine blk_drewN ?_ _ | refine blk_drew ?_ | refine blk_alloc ?_ _)); exact BK629.out) hb)
                  have n1_ := Aside0.mk (blk_below (g := gb630) (o := .cells #[.int .i64 a2_0, .int .i64 a2_1, .string a2_2] 31 (0, 0)) (by (with_reducible repeat (first | refine blk_drewN ?_ _ | refine blk_drew ?_ | refine blk_alloc ?_ _)); exact BK630.out) hb)
                  have n2_ := Aside0.mk (below_step (by repeat (first | (with_reducible first | exact HB.out | apply below_alloc | apply pw_below_drewN | apply below_drew1 | refine below_set ?_ GE629.out | refine below_set ?_ GE630.out) | exact HB.out)) hb)
                  have n3_ := Aside0.mk (hbox)
                  have n4_ := Aside0.mk ((by rw [hg]; exact (below_size (by repeat (first | (with_reducible first | exact HB.out | apply below_alloc | apply pw_below_drewN | apply below_drew1 | refine below_set ?_ GE629.out | refine below_set ?_ GE630.out) | exact HB.out))) : w.heap.size ≤ gb643))
                  have n5_ := Aside0.mk ((by rw [hg]; exact (below_size (by repeat (first | (with_reducible first | exact HB.out | apply below_alloc | apply pw_below_drewN | apply below_drew1 | refine below_set ?_ GE629.out | refine below_set ?_ GE630.out) | exact HB.out))) : w.heap.size ≤ gb643))
                  have n6_ := Aside0.mk ((by rw [hg]; exact Nat.ne_of_lt (blk_lt (g := gb629) (o := .cells #[.int .i64 a1_0, .int .i64 a1_1, .string a1_2] 31 (0, 0)) (by (with_reducible repeat (first | refine blk_drewN ?_ _ | refine blk_drew ?_ | refine blk_alloc ?_ _)); exact BK629.out)) : gb629 ≠ gb643))
                  have n7_ := Aside0.mk ((by rw [hg]; exact Nat.ne_of_gt (blk_lt (g := gb629) (o := .cells #[.int .i64 a1_0, .int .i64 a1_1, .string a1_2] 31 (0, 0)) (by (with_reducible repeat (first | refine blk_drewN ?_ _ | refine blk_drew ?_ | refine blk_alloc ?_ _)); exact BK629.out)) : gb643 ≠ gb629))
                  have n8_ := Aside0.mk ((by rw [hg]; exact Nat.ne_of_lt (blk_lt (g := gb630) (o := .cells #[.int .i64 a2_0, .int .i64 a2_1, .string a2_2] 31 (0, 0)) (by (with_reducible repeat (first | refine blk_drewN ?_ _ | refine blk_drew ?_ | refine blk_alloc ?_ _)); exact BK630.out)) : gb630 ≠ gb643))
                  have n9_ := Aside0.mk ((by rw [hg]; exact Nat.ne_of_gt (blk_lt (g := gb630) (o := .cells #[.int .i64 a2_0, .int .i64 a2_1, .string a2_2] 31 (0, 0)) (by (with_reducible repeat (first | refine blk_drewN ?_ _ | refine blk_drew ?_ | refine blk_alloc ?_ _)); exact BK630.out)) : gb643 ≠ gb630))
                  clear BK629
                  clear BK630
                  clear HB
                  have BK629 := n0_
                  have BK630 := n1_
                  have HB := n2_
                  have BK643 := n3_
                  have GW643 := n4_
                  have GE643 := n5_
                  have NB629_643 := n6_
                  have NB643_629 := n7_
                  have NB630_643 := n8_
                  have NB643_630 := n9_
                  clear n0_ n1_ n2_ n3_ n4_ n5_ n6_ n7_ n8_ n9_
                  clear hb hbox hg
                  refine hK.out _ _ ⟨(blk_cell BK629.out 0).trans rfl, (blk_cell BK629.out 1).trans rfl, (blk_cell BK629.out 2).trans rfl, (blk_cell BK630.out 0).trans rfl, (blk_cell BK630.out 1).trans rfl, (blk_cell BK630.out 2).trans rfl⟩ (fun hHeld => ?_)
                  clear hK K
                  refine norm_ (a' := ?_) ?_ ?_
                  rotate_left
                  · show Act.put _ (some 8) _ = _
                    simp only [Act.put, List.setIfInBounds_toArray, List.set_cons_zero, List.set_cons_succ, i64_w, i32_w]
                    rfl
                  refine one_ (i := 5) (N := some 28) #[true, true, true, true, true, true, false, false, false, true, false, false] rfl rfl (one_of HT_.out (by kernel_rfl)) (by decide) (fun K hK => ?_)
                  refine goes_ Try.func56 (by kernel_rfl) rfl #[.int .i64 a0, .agg #[.int .i64 t633, .int .i64 t634, .string t635], .agg #[.int .i64 t636, .int .i64 t637, .string t638]] (by rfl) rfl rfl (by (try simp only [List.map_toArray, List.map_cons, List.map_nil]); first | done | rfl | (simp only [List.length_drop, List.length_take]; rfl)) ?_
                  with_reducible refine (spec_Binary.calls k a0 t633 t634 t635 t636 t637 t638 t639 t640 t641 t642 _ A22.out).mono ?_
                  rintro e w40 ⟨rfl, hb⟩
                  refine ⟨_, rfl, ?_⟩
                  have n0_ := Aside0.mk (blk_below (g := gb629) (o := .cells #[.int .i64 a1_0, .int .i64 a1_1, .string a1_2] 31 (0, 0)) (by (with_reducible repeat (first | refine blk_drewN ?_ _ | refine blk_drew ?_ | refine blk_alloc ?_ _)); exact BK629.out) hb)
                  have n1_ := Aside0.mk (blk_below (g := gb630) (o := .cells #[.int .i64 a2_0, .int .i64 a2_1, .string a2_2] 31 (0, 0)) (by (with_reducible repeat (first | refine blk_drewN ?_ _ | refine blk_drew ?_ | refine blk_alloc ?_ _)); exact BK630.out) hb)
                  have n2_ := Aside0.mk (blk_below (g := gb643) (o := .cells #[.int .i64 0, .int .i64 0, .string (⟨#[]⟩ : ByteArray)] 34 (0, 0)) (by (with_reducible repeat (first | refine blk_drewN ?_ _ | refine blk_drew ?_ | refine blk_alloc ?_ _)); exact BK643.out) hb)
                  have n3_ := Aside0.mk (below_step (by repeat (first | (with_reducible first | exact HB.out | apply below_alloc | apply pw_below_drewN | apply below_drew1 | refine below_set ?_ GE629.out | refine below_set ?_ GE630.out | refine below_set ?_ GE643.out) | exact HB.out)) hb)
                  clear BK629
                  clear BK630
                  clear BK643
                  clear HB
                  have BK629 := n0_
                  have BK630 := n1_
                  have BK643 := n2_
                  have HB := n3_
                  clear n0_ n1_ n2_ n3_
                  (try clear hb)
                  (try clear hb2)
                  (try clear hk)
                  (try clear hi)
                  refine hK.out _ _ ⟨(blk_cell BK629.out 0).trans rfl, (blk_cell BK629.out 1).trans rfl, (blk_cell BK629.out 2).trans rfl, (blk_cell BK630.out 0).trans rfl, (blk_cell BK630.out 1).trans rfl, (blk_cell BK630.out 2).trans rfl⟩ (fun hHeld => ?_)
                  clear hK K
                  refine norm_ (a' := ?_) ?_ ?_
                  rotate_left
                  · show Act.put _ (some 28) _ = _
                    simp only [Act.put, List.setIfInBounds_toArray, List.set_cons_zero, List.set_cons_succ, i64_w, i32_w]
                    rfl
                  refine pure_ (i := 6) (N := some 22) (v := ?_) (a' := ?_) #[true, true, true, true, true, true, true, false, false, true, false, false] rfl rfl (any_of HT_.out (by kernel_rfl)) (fun _ _ _ h => h) (Or.inl ⟨by rfl, ?_⟩) ?_ ?_
                  rotate_left
                  · intro w'
                    go_simp
                    with_reducible rfl
                  rotate_left
                  · simp only [Act.put, List.setIfInBounds_toArray, List.set_cons_zero, List.set_cons_succ, i64_w, i32_w]
                    rfl
                  refine pure_ (i := 7) (N := some 29) (v := ?_) (a' := ?_) #[true, true, true, true, true, true, true, true, false, true, false, false] rfl rfl (any_of HT_.out (by kernel_rfl)) (fun _ _ _ h => h) (Or.inl ⟨by rfl, ?_⟩) ?_ ?_
                  rotate_left
                  · intro w'
                    go_simp
                    with_reducible rfl
                  rotate_left
                  · simp only [Act.put, List.setIfInBounds_toArray, List.set_cons_zero, List.set_cons_succ, i64_w, i32_w]
                    rfl
                  refine pure_ (i := 8) (N := some 30) (v := ?_) (a' := ?_) #[true, true, true, true, true, true, true, true, true, true, false, false] rfl rfl (any_of HT_.out (by kernel_rfl)) (fun _ _ _ h => h) (Or.inl ⟨by rfl, ?_⟩) ?_ ?_
                  rotate_left
                  · intro w'
                    go_simp
                    with_reducible rfl
                  rotate_left
                  · simp only [Act.put, List.setIfInBounds_toArray, List.set_cons_zero, List.set_cons_succ, i64_w, i32_w]
                    rfl
                  exact norm_ (by simp only [putAll, Act.put, List.setIfInBounds_toArray, List.set_cons_zero, List.set_cons_succ]) (hCont (gb643) _ ⟨hHeld, (by (with_reducible repeat (first | refine blk_drewN ?_ _ | refine blk_drew ?_ | refine blk_alloc ?_ _)); exact BK629.out), (by (with_reducible repeat (first | refine blk_drewN ?_ _ | refine blk_drew ?_ | refine blk_alloc ?_ _)); exact BK630.out), (by (with_reducible repeat (first | refine blk_drewN ?_ _ | refine blk_drew ?_ | refine blk_alloc ?_ _)); exact BK643.out), GW643.out, GE643.out, NB629_643.out, NB643_629.out, NB630_643.out, NB643_630.out, (by repeat (first | (with_reducible first | exact HB.out | apply below_alloc | apply pw_below_drewN | apply below_drew1 | refine below_set ?_ GE629.out | refine below_set ?_ GE630.out | refine below_set ?_ GE643.out) | exact HB.out))⟩)
              · skip
                refine box_step ?hg (N := 8) ?hd (cs := #[.int .i64 0, .int .i64 0, .string (⟨#[]⟩ : ByteArray)]) (t := 34) ?hr ?_; (case hd => rfl); (case hg => rfl); (case hr => first | (go_simp; done) | (go_simp; rfl))
                intro gb643 hg w38 hbox hb
                have n0_ := Aside0.mk (blk_below (g := gb629) (o := .cells #[.int .i64 a1_0, .int .i64 a1_1, .string a1_2] 31 (0, 0)) (by (with_reducible repeat (first | refine blk_drewN ?_ _ | refine blk_drew ?_ | refine blk_alloc ?_ _)); exact BK629.out) hb)
                have n1_ := Aside0.mk (blk_below (g := gb630) (o := .cells #[.int .i64 a2_0, .int .i64 a2_1, .string a2_2] 31 (0, 0)) (by (with_reducible repeat (first | refine blk_drewN ?_ _ | refine blk_drew ?_ | refine blk_alloc ?_ _)); exact BK630.out) hb)
                have n2_ := Aside0.mk (below_step (by repeat (first | (with_reducible first | exact HB.out | apply below_alloc | apply pw_below_drewN | apply below_drew1 | refine below_set ?_ GE629.out | refine below_set ?_ GE630.out) | exact HB.out)) hb)
                have n3_ := Aside0.mk (hbox)
                have n4_ := Aside0.mk ((by rw [hg]; exact (below_size (by repeat (first | (with_reducible first | exact HB.out | apply below_alloc | apply pw_below_drewN | apply below_drew1 | refine below_set ?_ GE629.out | refine below_set ?_ GE630.out) | exact HB.out))) : w.heap.size ≤ gb643))
                have n5_ := Aside0.mk ((by rw [hg]; exact (below_size (by repeat (first | (with_reducible first | exact HB.out | apply below_alloc | apply pw_below_drewN | apply below_drew1 | refine below_set ?_ GE629.out | refine below_set ?_ GE630.out) | exact HB.out))) : w.heap.size ≤ gb643))
                have n6_ := Aside0.mk ((by rw [hg]; exact Nat.ne_of_lt (blk_lt (g := gb629) (o := .cells #[.int .i64 a1_0, .int .i64 a1_1, .string a1_2] 31 (0, 0)) (by (with_reducible repeat (first | refine blk_drewN ?_ _ | refine blk_drew ?_ | refine blk_alloc ?_ _)); exact BK629.out)) : gb629 ≠ gb643))
                have n7_ := Aside0.mk ((by rw [hg]; exact Nat.ne_of_gt (blk_lt (g := gb629) (o := .cells #[.int .i64 a1_0, .int .i64 a1_1, .string a1_2] 31 (0, 0)) (by (with_reducible repeat (first | refine blk_drewN ?_ _ | refine blk_drew ?_ | refine blk_alloc ?_ _)); exact BK629.out)) : gb643 ≠ gb629))
                have n8_ := Aside0.mk ((by rw [hg]; exact Nat.ne_of_lt (blk_lt (g := gb630) (o := .cells #[.int .i64 a2_0, .int .i64 a2_1, .string a2_2] 31 (0, 0)) (by (with_reducible repeat (first | refine blk_drewN ?_ _ | refine blk_drew ?_ | refine blk_alloc ?_ _)); exact BK630.out)) : gb630 ≠ gb643))
                have n9_ := Aside0.mk ((by rw [hg]; exact Nat.ne_of_gt (blk_lt (g := gb630) (o := .cells #[.int .i64 a2_0, .int .i64 a2_1, .string a2_2] 31 (0, 0)) (by (with_reducible repeat (first | refine blk_drewN ?_ _ | refine blk_drew ?_ | refine blk_alloc ?_ _)); exact BK630.out)) : gb643 ≠ gb630))
                clear BK629
                clear BK630
                clear HB
                have BK629 := n0_
                have BK630 := n1_
                have HB := n2_
                have BK643 := n3_
                have GW643 := n4_
                have GE643 := n5_
                have NB629_643 := n6_
                have NB643_629 := n7_
                have NB630_643 := n8_
                have NB643_630 := n9_
                clear n0_ n1_ n2_ n3_ n4_ n5_ n6_ n7_ n8_ n9_
                clear hb hbox hg
                refine hK.out _ _ ⟨(blk_cell BK629.out 0).trans rfl, (blk_cell BK629.out 1).trans rfl, (blk_cell BK629.out 2).trans rfl, (blk_cell BK630.out 0).trans rfl, (blk_cell BK630.out 1).trans rfl, (blk_cell BK630.out 2).trans rfl⟩ (fun hHeld => ?_)
                clear hK K
                refine norm_ (a' := ?_) ?_ ?_
                rotate_left
                · show Act.put _ (some 8) _ = _
                  simp only [Act.put, List.setIfInBounds_toArray, List.set_cons_zero, List.set_cons_succ, i64_w, i32_w]
                  rfl
                refine one_ (i := 4) (N := some 27) #[true, true, true, true, true, false, false, false, false, true, false, false] rfl rfl (one_of HT_.out (by kernel_rfl)) (by decide) (fun K hK => ?_)
                refine goes_ Try.func21 (by kernel_rfl) rfl #[.agg #[.int .i64 a2_0, .int .i64 a2_1, .string a2_2]] (by rfl) rfl rfl (by (try simp only [List.map_toArray, List.map_cons, List.map_nil]); first | done | rfl | (simp only [List.length_drop, List.length_take]; rfl)) ?_
                with_reducible refine (laws_toValue.calls a2_0 a2_1 a2_2 t636 t637 t638 _ A21.out).mono ?_
                rintro e w39 ⟨rfl, hb⟩
                refine ⟨_, rfl, ?_⟩
                have n0_ := Aside0.mk (blk_below (g := gb629) (o := .cells #[.int .i64 a1_0, .int .i64 a1_1, .string a1_2] 31 (0, 0)) (by (with_reducible repeat (first | refine blk_drewN ?_ _ | refine blk_drew ?_ | refine blk_alloc ?_ _)); exact BK629.out) hb)
                have n1_ := Aside0.mk (blk_below (g := gb630) (o := .cells #[.int .i64 a2_0, .int .i64 a2_1, .string a2_2] 31 (0, 0)) (by (with_reducible repeat (first | refine blk_drewN ?_ _ | refine blk_drew ?_ | refine blk_alloc ?_ _)); exact BK630.out) hb)
                have n2_ := Aside0.mk (blk_below (g := gb643) (o := .cells #[.int .i64 0, .int .i64 0, .string (⟨#[]⟩ : ByteArray)] 34 (0, 0)) (by (with_reducible repeat (first | refine blk_drewN ?_ _ | refine blk_drew ?_ | refine blk_alloc ?_ _)); exact BK643.out) hb)
                have n3_ := Aside0.mk (below_step (by repeat (first | (with_reducible first | exact HB.out | apply below_alloc | apply pw_below_drewN | apply below_drew1 | refine below_set ?_ GE629.out | refine below_set ?_ GE630.out | refine below_set ?_ GE643.out) | exact HB.out)) hb)
                clear BK629
                clear BK630
                clear BK643
                clear HB
                have BK629 := n0_
                have BK630 := n1_
                have BK643 := n2_
                have HB := n3_
                clear n0_ n1_ n2_ n3_
                (try clear hb)
                (try clear hb2)
                (try clear hk)
                (try clear hi)
                refine hK.out _ _ ⟨(blk_cell BK629.out 0).trans rfl, (blk_cell BK629.out 1).trans rfl, (blk_cell BK629.out 2).trans rfl, (blk_cell BK630.out 0).trans rfl, (blk_cell BK630.out 1).trans rfl, (blk_cell BK630.out 2).trans rfl⟩ (fun hHeld => ?_)
                clear hK K
                refine norm_ (a' := ?_) ?_ ?_
                rotate_left
                · show Act.put _ (some 27) _ = _
                  simp only [Act.put, List.setIfInBounds_toArray, List.set_cons_zero, List.set_cons_succ, i64_w, i32_w]
                  rfl
                refine one_ (i := 5) (N := some 28) #[true, true, true, true, true, true, false, false, false, true, false, false] rfl rfl (one_of HT_.out (by kernel_rfl)) (by decide) (fun K hK => ?_)
                refine goes_ Try.func56 (by kernel_rfl) rfl #[.int .i64 a0, .agg #[.int .i64 t633, .int .i64 t634, .string t635], .agg #[.int .i64 t636, .int .i64 t637, .string t638]] (by rfl) rfl rfl (by (try simp only [List.map_toArray, List.map_cons, List.map_nil]); first | done | rfl | (simp only [List.length_drop, List.length_take]; rfl)) ?_
                with_reducible refine (spec_Binary.calls k a0 t633 t634 t635 t636 t637 t638 t639 t640 t641 t642 _ A22.out).mono ?_
                rintro e w40 ⟨rfl, hb⟩
                refine ⟨_, rfl, ?_⟩
                have n0_ := Aside0.mk (blk_below (g := gb629) (o := .cells #[.int .i64 a1_0, .int .i64 a1_1, .string a1_2] 31 (0, 0)) (by (with_reducible repeat (first | refine blk_drewN ?_ _ | refine blk_drew ?_ | refine blk_alloc ?_ _)); exact BK629.out) hb)
                have n1_ := Aside0.mk (blk_below (g := gb630) (o := .cells #[.int .i64 a2_0, .int .i64 a2_1, .string a2_2] 31 (0, 0)) (by (with_reducible repeat (first | refine blk_drewN ?_ _ | refine blk_drew ?_ | refine blk_alloc ?_ _)); exact BK630.out) hb)
                have n2_ := Aside0.mk (blk_below (g := gb643) (o := .cells #[.int .i64 0, .int .i64 0, .string (⟨#[]⟩ : ByteArray)] 34 (0, 0)) (by (with_reducible repeat (first | refine blk_drewN ?_ _ | refine blk_drew ?_ | refine blk_alloc ?_ _)); exact BK643.out) hb)
                have n3_ := Aside0.mk (below_step (by repeat (first | (with_reducible first | exact HB.out | apply below_alloc | apply pw_below_drewN | apply below_drew1 | refine below_set ?_ GE629.out | refine below_set ?_ GE630.out | refine below_set ?_ GE643.out) | exact HB.out)) hb)
                clear BK629
                clear BK630
                clear BK643
                clear HB
                have BK629 := n0_
                have BK630 := n1_
                have BK643 := n2_
                have HB := n3_
                clear n0_ n1_ n2_ n3_
                (try clear hb)
                (try clear hb2)
                (try clear hk)
                (try clear hi)
                refine hK.out _ _ ⟨(blk_cell BK629.out 0).trans rfl, (blk_cell BK629.out 1).trans rfl, (blk_cell BK629.out 2).trans rfl, (blk_cell BK630.out 0).trans rfl, (blk_cell BK630.out 1).trans rfl, (blk_cell BK630.out 2).trans rfl⟩ (fun hHeld => ?_)
                clear hK K
                refine norm_ (a' := ?_) ?_ ?_
                rotate_left
                · show Act.put _ (some 28) _ = _
                  simp only [Act.put, List.setIfInBounds_toArray, List.set_cons_zero, List.set_cons_succ, i64_w, i32_w]
                  rfl
                refine pure_ (i := 6) (N := some 22) (v := ?_) (a' := ?_) #[true, true, true, true, true, true, true, false, false, true, false, false] rfl rfl (any_of HT_.out (by kernel_rfl)) (fun _ _ _ h => h) (Or.inl ⟨by rfl, ?_⟩) ?_ ?_
                rotate_left
                · intro w'
                  go_simp
                  with_reducible rfl
                rotate_left
                · simp only [Act.put, List.setIfInBounds_toArray, List.set_cons_zero, List.set_cons_succ, i64_w, i32_w]
                  rfl
                refine pure_ (i := 7) (N := some 29) (v := ?_) (a' := ?_) #[true, true, true, true, true, true, true, true, false, true, false, false] rfl rfl (any_of HT_.out (by kernel_rfl)) (fun _ _ _ h => h) (Or.inl ⟨by rfl, ?_⟩) ?_ ?_
                rotate_left
                · intro w'
                  go_simp
                  with_reducible rfl
                rotate_left
                · simp only [Act.put, List.setIfInBounds_toArray, List.set_cons_zero, List.set_cons_succ, i64_w, i32_w]
                  rfl
                refine pure_ (i := 8) (N := some 30) (v := ?_) (a' := ?_) #[true, true, true, true, true, true, true, true, true, true, false, false] rfl rfl (any_of HT_.out (by kernel_rfl)) (fun _ _ _ h => h) (Or.inl ⟨by rfl, ?_⟩) ?_ ?_
                rotate_left
                · intro w'
                  go_simp
                  with_reducible rfl
                rotate_left
                · simp only [Act.put, List.setIfInBounds_toArray, List.set_cons_zero, List.set_cons_succ, i64_w, i32_w]
                  rfl
                exact norm_ (by simp only [putAll, Act.put, List.setIfInBounds_toArray, List.set_cons_zero, List.set_cons_succ]) (hCont (gb643) _ ⟨hHeld, (by (with_reducible repeat (first | refine blk_drewN ?_ _ | refine blk_drew ?_ | refine blk_alloc ?_ _)); exact BK629.out), (by (with_reducible repeat (first | refine blk_drewN ?_ _ | refine blk_drew ?_ | refine blk_alloc ?_ _)); exact BK630.out), (by (with_reducible repeat (first | refine blk_drewN ?_ _ | refine blk_drew ?_ | refine blk_alloc ?_ _)); exact BK643.out), GW643.out, GE643.out, NB629_643.out, NB643_629.out, NB630_643.out, NB643_630.out, (by repeat (first | (with_reducible first | exact HB.out | apply below_alloc | apply pw_below_drewN | apply below_drew1 | refine below_set ?_ GE629.out | refine below_set ?_ GE630.out | refine below_set ?_ GE643.out) | exact HB.out))⟩)
            · skip
              refine box_step ?hg (N := 8) ?hd (cs := #[.int .i64 0, .int .i64 0, .string (⟨#[]⟩ : ByteArray)]) (t := 34) ?hr ?_; (case hd => rfl); (case hg => rfl); (case hr => first | (go_simp; done) | (go_simp; rfl))
              intro gb643 hg w37 hbox hb
              have n0_ := Aside0.mk (blk_below (g := gb629) (o := .cells #[.int .i64 a1_0, .int .i64 a1_1, .string a1_2] 31 (0, 0)) (by (with_reducible repeat (first | refine blk_drewN ?_ _ | refine blk_drew ?_ | refine blk_alloc ?_ _)); exact BK629.out) hb)
              have n1_ := Aside0.mk (blk_below (g := gb630) (o := .cells #[.int .i64 a2_0, .int .i64 a2_1, .string a2_2] 31 (0, 0)) (by (with_reducible repeat (first | refine blk_drewN ?_ _ | refine blk_drew ?_ | refine blk_alloc ?_ _)); exact BK630.out) hb)
              have n2_ := Aside0.mk (below_step (by repeat (first | (with_reducible first | exact HB.out | apply below_alloc | apply pw_below_drewN | apply below_drew1 | refine below_set ?_ GE629.out | refine below_set ?_ GE630.out) | exact HB.out)) hb)
              have n3_ := Aside0.mk (hbox)
              have n4_ := Aside0.mk ((by rw [hg]; exact (below_size (by repeat (first | (with_reducible first | exact HB.out | apply below_alloc | apply pw_below_drewN | apply below_drew1 | refine below_set ?_ GE629.out | refine below_set ?_ GE630.out) | exact HB.out))) : w.heap.size ≤ gb643))
              have n5_ := Aside0.mk ((by rw [hg]; exact (below_size (by repeat (first | (with_reducible first | exact HB.out | apply below_alloc | apply pw_below_drewN | apply below_drew1 | refine below_set ?_ GE629.out | refine below_set ?_ GE630.out) | exact HB.out))) : w.heap.size ≤ gb643))
              have n6_ := Aside0.mk ((by rw [hg]; exact Nat.ne_of_lt (blk_lt (g := gb629) (o := .cells #[.int .i64 a1_0, .int .i64 a1_1, .string a1_2] 31 (0, 0)) (by (with_reducible repeat (first | refine blk_drewN ?_ _ | refine blk_drew ?_ | refine blk_alloc ?_ _)); exact BK629.out)) : gb629 ≠ gb643))
              have n7_ := Aside0.mk ((by rw [hg]; exact Nat.ne_of_gt (blk_lt (g := gb629) (o := .cells #[.int .i64 a1_0, .int .i64 a1_1, .string a1_2] 31 (0, 0)) (by (with_reducible repeat (first | refine blk_drewN ?_ _ | refine blk_drew ?_ | refine blk_alloc ?_ _)); exact BK629.out)) : gb643 ≠ gb629))
              have n8_ := Aside0.mk ((by rw [hg]; exact Nat.ne_of_lt (blk_lt (g := gb630) (o := .cells #[.int .i64 a2_0, .int .i64 a2_1, .string a2_2] 31 (0, 0)) (by (with_reducible repeat (first | refine blk_drewN ?_ _ | refine blk_drew ?_ | refine blk_alloc ?_ _)); exact BK630.out)) : gb630 ≠ gb643))
              have n9_ := Aside0.mk ((by rw [hg]; exact Nat.ne_of_gt (blk_lt (g := gb630) (o := .cells #[.int .i64 a2_0, .int .i64 a2_1, .string a2_2] 31 (0, 0)) (by (with_reducible repeat (first | refine blk_drewN ?_ _ | refine blk_drew ?_ | refine blk_alloc ?_ _)); exact BK630.out)) : gb643 ≠ gb630))
              clear BK629
              clear BK630
              clear HB
              have BK629 := n0_
              have BK630 := n1_
              have HB := n2_
              have BK643 := n3_
              have GW643 := n4_
              have GE643 := n5_
              have NB629_643 := n6_
              have NB643_629 := n7_
              have NB630_643 := n8_
              have NB643_630 := n9_
              clear n0_ n1_ n2_ n3_ n4_ n5_ n6_ n7_ n8_ n9_
              clear hb hbox hg
              refine hK.out _ _ ⟨(blk_cell BK629.out 0).trans rfl, (blk_cell BK629.out 1).trans rfl, (blk_cell BK629.out 2).trans rfl, (blk_cell BK630.out 0).trans rfl, (blk_cell BK630.out 1).trans rfl, (blk_cell BK630.out 2).trans rfl⟩ (fun hHeld => ?_)
              clear hK K
              refine norm_ (a' := ?_) ?_ ?_
              rotate_left
              · show Act.put _ (some 8) _ = _
                simp only [Act.put, List.setIfInBounds_toArray, List.set_cons_zero, List.set_cons_succ, i64_w, i32_w]
                rfl
              refine one_ (i := 2) (N := some 25) #[true, true, true, true, false, false, false, false, false, true, false, false] rfl rfl (one_of HT_.out (by kernel_rfl)) (by decide) (fun K hK => ?_)
              refine goes_ Try.func21 (by kernel_rfl) rfl #[.agg #[.int .i64 a1_0, .int .i64 a1_1, .string a1_2]] (by rfl) rfl rfl (by (try simp only [List.map_toArray, List.map_cons, List.map_nil]); first | done | rfl | (simp only [List.length_drop, List.length_take]; rfl)) ?_
              with_reducible refine (laws_toValue.calls a1_0 a1_1 a1_2 t633 t634 t635 _ A20.out).mono ?_
              rintro e w38 ⟨rfl, hb⟩
              refine ⟨_, rfl, ?_⟩
              have n0_ := Aside0.mk (blk_below (g := gb629) (o := .cells #[.int .i64 a1_0, .int .i64 a1_1, .string a1_2] 31 (0, 0)) (by (with_reducible repeat (first | refine blk_drewN ?_ _ | refine blk_drew ?_ | refine blk_alloc ?_ _)); exact BK629.out) hb)
              have n1_ := Aside0.mk (blk_below (g := gb630) (o := .cells #[.int .i64 a2_0, .int .i64 a2_1, .string a2_2] 31 (0, 0)) (by (with_reducible repeat (first | refine blk_drewN ?_ _ | refine blk_drew ?_ | refine blk_alloc ?_ _)); exact BK630.out) hb)
              have n2_ := Aside0.mk (blk_below (g := gb643) (o := .cells #[.int .i64 0, .int .i64 0, .string (⟨#[]⟩ : ByteArray)] 34 (0, 0)) (by (with_reducible repeat (first | refine blk_drewN ?_ _ | refine blk_drew ?_ | refine blk_alloc ?_ _)); exact BK643.out) hb)
              have n3_ := Aside0.mk (below_step (by repeat (first | (with_reducible first | exact HB.out | apply below_alloc | apply pw_below_drewN | apply below_drew1 | refine below_set ?_ GE629.out | refine below_set ?_ GE630.out | refine below_set ?_ GE643.out) | exact HB.out)) hb)
              clear BK629
              clear BK630
              clear BK643
              clear HB
              have BK629 := n0_
              have BK630 := n1_
              have BK643 := n2_
              have HB := n3_
              clear n0_ n1_ n2_ n3_
              (try clear hb)
              (try clear hb2)
              (try clear hk)
              (try clear hi)
              refine hK.out _ _ ⟨(blk_cell BK629.out 0).trans rfl, (blk_cell BK629.out 1).trans rfl, (blk_cell BK629.out 2).trans rfl, (blk_cell BK630.out 0).trans rfl, (blk_cell BK630.out 1).trans rfl, (blk_cell BK630.out 2).trans rfl⟩ (fun hHeld => ?_)
              clear hK K
              refine norm_ (a' := ?_) ?_ ?_
              rotate_left
              · show Act.put _ (some 25) _ = _
                simp only [Act.put, List.setIfInBounds_toArray, List.set_cons_zero, List.set_cons_succ, i64_w, i32_w]
                rfl
              refine one_ (i := 4) (N := some 27) #[true, true, true, true, true, false, false, false, false, true, false, false] rfl rfl (one_of HT_.out (by kernel_rfl)) (by decide) (fun K hK => ?_)
              refine goes_ Try.func21 (by kernel_rfl) rfl #[.agg #[.int .i64 a2_0, .int .i64 a2_1, .string a2_2]] (by rfl) rfl rfl (by (try simp only [List.map_toArray, List.map_cons, List.map_nil]); first | done | rfl | (simp only [List.length_drop, List.length_take]; rfl)) ?_
              with_reducible refine (laws_toValue.calls a2_0 a2_1 a2_2 t636 t637 t638 _ A21.out).mono ?_
              rintro e w39 ⟨rfl, hb⟩
              refine ⟨_, rfl, ?_⟩
              have n0_ := Aside0.mk (blk_below (g := gb629) (o := .cells #[.int .i64 a1_0, .int .i64 a1_1, .string a1_2] 31 (0, 0)) (by (with_reducible repeat (first | refine blk_drewN ?_ _ | refine blk_drew ?_ | refine blk_alloc ?_ _)); exact BK629.out) hb)
              have n1_ := Aside0.mk (blk_below (g := gb630) (o := .cells #[.int .i64 a2_0, .int .i64 a2_1, .string a2_2] 31 (0, 0)) (by (with_reducible repeat (first | refine blk_drewN ?_ _ | refine blk_drew ?_ | refine blk_alloc ?_ _)); exact BK630.out) hb)
              have n2_ := Aside0.mk (blk_below (g := gb643) (o := .cells #[.int .i64 0, .int .i64 0, .string (⟨#[]⟩ : ByteArray)] 34 (0, 0)) (by (with_reducible repeat (first | refine blk_drewN ?_ _ | refine blk_drew ?_ | refine blk_alloc ?_ _)); exact BK643.out) hb)
              have n3_ := Aside0.mk (below_step (by repeat (first | (with_reducible first | exact HB.out | apply below_alloc | apply pw_below_drewN | apply below_drew1 | refine below_set ?_ GE629.out | refine below_set ?_ GE630.out | refine below_set ?_ GE643.out) | exact HB.out)) hb)
              clear BK629
              clear BK630
              clear BK643
              clear HB
              have BK629 := n0_
              have BK630 := n1_
              have BK643 := n2_
              have HB := n3_
              clear n0_ n1_ n2_ n3_
              (try clear hb)
              (try clear hb2)
              (try clear hk)
              (try clear hi)
              refine hK.out _ _ ⟨(blk_cell BK629.out 0).trans rfl, (blk_cell BK629.out 1).trans rfl, (blk_cell BK629.out 2).trans rfl, (blk_cell BK630.out 0).trans rfl, (blk_cell BK630.out 1).trans rfl, (blk_cell BK630.out 2).trans rfl⟩ (fun hHeld => ?_)
              clear hK K
              refine norm_ (a' := ?_) ?_ ?_
              rotate_left
              · show Act.put _ (some 27) _ = _
                simp only [Act.put, List.setIfInBounds_toArray, List.set_cons_zero, List.set_cons_succ, i64_w, i32_w]
                rfl
              refine one_ (i := 5) (N := some 28) #[true, true, true, true, true, true, false, false, false, true, false, false] rfl rfl (one_of HT_.out (by kernel_rfl)) (by decide) (fun K hK => ?_)
              refine goes_ Try.func56 (by kernel_rfl) rfl #[.int .i64 a0, .agg #[.int .i64 t633, .int .i64 t634, .string t635], .agg #[.int .i64 t636, .int .i64 t637, .string t638]] (by rfl) rfl rfl (by (try simp only [List.map_toArray, List.map_cons, List.map_nil]); first | done | rfl | (simp only [List.length_drop, List.length_take]; rfl)) ?_
              with_reducible refine (spec_Binary.calls k a0 t633 t634 t635 t636 t637 t638 t639 t640 t641 t642 _ A22.out).mono ?_
              rintro e w40 ⟨rfl, hb⟩
              refine ⟨_, rfl, ?_⟩
              have n0_ := Aside0.mk (blk_below (g := gb629) (o := .cells #[.int .i64 a1_0, .int .i64 a1_1, .string a1_2] 31 (0, 0)) (by (with_reducible repeat (first | refine blk_drewN ?_ _ | refine blk_drew ?_ | refine blk_alloc ?_ _)); exact BK629.out) hb)
              have n1_ := Aside0.mk (blk_below (g := gb630) (o := .cells #[.int .i64 a2_0, .int .i64 a2_1, .string a2_2] 31 (0, 0)) (by (with_reducible repeat (first | refine blk_drewN ?_ _ | refine blk_drew ?_ | refine blk_alloc ?_ _)); exact BK630.out) hb)
              have n2_ := Aside0.mk (blk_below (g := gb643) (o := .cells #[.int .i64 0, .int .i64 0, .string (⟨#[]⟩ : ByteArray)] 34 (0, 0)) (by (with_reducible repeat (first | refine blk_drewN ?_ _ | refine blk_drew ?_ | refine blk_alloc ?_ _)); exact BK643.out) hb)
              have n3_ := Aside0.mk (below_step (by repeat (first | (with_reducible first | exact HB.out | apply below_alloc | apply pw_below_drewN | apply below_drew1 | refine below_set ?_ GE629.out | refine below_set ?_ GE630.out | refine below_set ?_ GE643.out) | exact HB.out)) hb)
              clear BK629
              clear BK630
              clear BK643
              clear HB
              have BK629 := n0_
              have BK630 := n1_
              have BK643 := n2_
              have HB := n3_
              clear n0_ n1_ n2_ n3_
              (try clear hb)
              (try clear hb2)
              (try clear hk)
              (try clear hi)
              refine hK.out _ _ ⟨(blk_cell BK629.out 0).trans rfl, (blk_cell BK629.out 1).trans rfl, (blk_cell BK629.out 2).trans rfl, (blk_cell BK630.out 0).trans rfl, (blk_cell BK630.out 1).trans rfl, (blk_cell BK630.out 2).trans rfl⟩ (fun hHeld => ?_)
              clear hK K
              refine norm_ (a' := ?_) ?_ ?_
              rotate_left
              · show Act.put _ (some 28) _ = _
                simp only [Act.put, List.setIfInBounds_toArray, List.set_cons_zero, List.set_cons_succ, i64_w, i32_w]
                rfl
              refine pure_ (i := 6) (N := some 22) (v := ?_) (a' := ?_) #[true, true, true, true, true, true, true, false, false, true, false, false] rfl rfl (any_of HT_.out (by kernel_rfl)) (fun _ _ _ h => h) (Or.inl ⟨by rfl, ?_⟩) ?_ ?_
              rotate_left
              · intro w'
                go_simp
                with_reducible rfl
              rotate_left
              · simp only [Act.put, List.setIfInBounds_toArray, List.set_cons_zero, List.set_cons_succ, i64_w, i32_w]
                rfl
              refine pure_ (i := 7) (N := some 29) (v := ?_) (a' := ?_) #[true, true, true, true, true, true, true, true, false, true, false, false] rfl rfl (any_of HT_.out (by kernel_rfl)) (fun _ _ _ h => h) (Or.inl ⟨by rfl, ?_⟩) ?_ ?_
              rotate_left
              · intro w'
                go_simp
                with_reducible rfl
              rotate_left
              · simp only [Act.put, List.setIfInBounds_toArray, List.set_cons_zero, List.set_cons_succ, i64_w, i32_w]
                rfl
              refine pure_ (i := 8) (N := some 30) (v := ?_) (a' := ?_) #[true, true, true, true, true, true, true, true, true, true, false, false] rfl rfl (any_of HT_.out (by kernel_rfl)) (fun _ _ _ h => h) (Or.inl ⟨by rfl, ?_⟩) ?_ ?_
              rotate_left
              · intro w'
                go_simp
                with_reducible rfl
              rotate_left
              · simp only [Act.put, List.setIfInBounds_toArray, List.set_cons_zero, List.set_cons_succ, i64_w, i32_w]
                rfl
              exact norm_ (by simp only [putAll, Act.put, List.setIfInBounds_toArray, List.set_cons_zero, List.set_cons_succ]) (hCont (gb643) _ ⟨hHeld, (by (with_reducible repeat (first | refine blk_drewN ?_ _ | refine blk_drew ?_ | refine blk_alloc ?_ _)); exact BK629.out), (by (with_reducible repeat (first | refine blk_drewN ?_ _ | refine blk_drew ?_ | refine blk_alloc ?_ _)); exact BK630.out), (by (with_reducible repeat (first | refine blk_drewN ?_ _ | refine blk_drew ?_ | refine blk_alloc ?_ _)); exact BK643.out), GW643.out, GE643.out, NB629_643.out, NB643_629.out, NB630_643.out, NB643_630.out, (by repeat (first | (with_reducible first | exact HB.out | apply below_alloc | apply pw_below_drewN | apply below_drew1 | refine below_set ?_ GE629.out | refine below_set ?_ GE630.out | refine below_set ?_ GE643.out) | exact HB.out))⟩)
          rintro gb643 w41 ⟨hS_, h0_, h1_, h2_, h3_, h4_, h5_, h6_, h7_, h8_, h9_⟩
          have n0_ : Aside0 (w41.heap[gb629]? = some (.cells #[.int .i64 a1_0, .int .i64 a1_1, .string a1_2] 31 (0, 0))) := ⟨h0_⟩
          have n1_ : Aside0 (w41.heap[gb630]? = some (.cells #[.int .i64 a2_0, .int .i64 a2_1, .string a2_2] 31 (0, 0))) := ⟨h1_⟩
          have n2_ : Aside0 (w41.heap[gb643]? = some (.cells #[.int .i64 0, .int .i64 0, .string (⟨#[]⟩ : ByteArray)] 34 (0, 0))) := ⟨h2_⟩
          have n3_ : Aside0 (w.heap.size ≤ gb643) := ⟨h3_⟩
          have n4_ : Aside0 (w.heap.size ≤ gb643) := ⟨h4_⟩
          have n5_ : Aside0 (gb629 ≠ gb643) := ⟨h5_⟩
          have n6_ : Aside0 (gb643 ≠ gb629) := ⟨h6_⟩
          have n7_ : Aside0 (gb630 ≠ gb643) := ⟨h7_⟩
          have n8_ : Aside0 (gb643 ≠ gb630) := ⟨h8_⟩
          have n9_ : Aside0 (Below w.heap.size w w41) := ⟨h9_⟩
          clear BK629
          clear BK630
          clear HB
          clear h0_ h1_ h2_ h3_ h4_ h5_ h6_ h7_ h8_ h9_
          have BK629 := n0_
          have BK630 := n1_
          have BK643 := n2_
          have GW643 := n3_
          have GE643 := n4_
          have NB629_643 := n5_
          have NB643_629 := n6_
          have NB630_643 := n7_
          have NB643_630 := n8_
          have HB := n9_
          clear n0_ n1_ n2_ n3_ n4_ n5_ n6_ n7_ n8_ n9_
          have hHeld : w41.cell? ⟨gb629, 0, none⟩ = some (.int .i64 a1_0) ∧ w41.cell? ⟨gb629, 1, none⟩ = some (.int .i64 a1_1) ∧ w41.cell? ⟨gb629, 2, none⟩ = some (.string a1_2) ∧ w41.cell? ⟨gb630, 0, none⟩ = some (.int .i64 a2_0) ∧ w41.cell? ⟨gb630, 1, none⟩ = some (.int .i64 a2_1) ∧ w41.cell? ⟨gb630, 2, none⟩ = some (.string a2_2) := hS_
          refine norm_ (a' := ?_) ?_ ?_
          rotate_left
          · simp only [putAll, Act.put, List.setIfInBounds_toArray, List.set_cons_zero, List.set_cons_succ]
            rfl
          refine one_ (i := 10) (N := none) #[true, true, true, true, true, true, true, true, true, true, true, false] rfl rfl (one_of HT_.out (by kernel_rfl)) (by decide) (fun K hK => ?_)
          have hs42 : w41.cell? ⟨gb643, 0, none⟩ = some (.int .i64 0) := (blk_cell BK643.out 0).trans rfl
          have hfs42 := blk_frozen BK643.out 0
          have hns42_0 := NB629_643.out
          have hns42_1 := NB630_643.out
          have hms42_0 := NB643_629.out
          have hms42_1 := NB643_630.out
          have hs43 : w41.cell? ⟨gb643, 1, none⟩ = some (.int .i64 0) := (blk_cell BK643.out 1).trans rfl
          have hfs43 := blk_frozen BK643.out 1
          have hns43_0 := NB629_643.out
          have hns43_1 := NB630_643.out
          have hms43_0 := NB643_629.out
          have hms43_1 := NB643_630.out
          have hs44 : w41.cell? ⟨gb643, 2, none⟩ = some (.string (⟨#[]⟩ : ByteArray)) := (blk_cell BK643.out 2).trans rfl
          have hfs44 := blk_frozen BK643.out 2
          have hns44_0 := NB629_643.out
          have hns44_1 := NB630_643.out
          have hms44_0 := NB643_629.out
          have hms44_1 := NB643_630.out
          refine skip_ (w1 := ?_) (by rfl) rfl ?_ ?_
          rotate_left
          · go_simp
            rfl
          refine hK.out _ _ ⟨((cell_far (p := ⟨gb643, _, none⟩) NB629_643.out _).trans (((cell_far (p := ⟨gb643, _, none⟩) NB629_643.out _).trans (((cell_far (p := ⟨gb643, _, none⟩) NB629_643.out _).trans (hHeld.1)))))), ((cell_far (p := ⟨gb643, _, none⟩) NB629_643.out _).trans (((cell_far (p := ⟨gb643, _, none⟩) NB629_643.out _).trans (((cell_far (p := ⟨gb643, _, none⟩) NB629_643.out _).trans (hHeld.2.1)))))), ((cell_far (p := ⟨gb643, _, none⟩) NB629_643.out _).trans (((cell_far (p := ⟨gb643, _, none⟩) NB629_643.out _).trans (((cell_far (p := ⟨gb643, _, none⟩) NB629_643.out _).trans (hHeld.2.2.1)))))), ((cell_far (p := ⟨gb643, _, none⟩) NB630_643.out _).trans (((cell_far (p := ⟨gb643, _, none⟩) NB630_643.out _).trans (((cell_far (p := ⟨gb643, _, none⟩) NB630_643.out _).trans (hHeld.2.2.2.1)))))), ((cell_far (p := ⟨gb643, _, none⟩) NB630_643.out _).trans (((cell_far (p := ⟨gb643, _, none⟩) NB630_643.out _).trans (((cell_far (p := ⟨gb643, _, none⟩) NB630_643.out _).trans (hHeld.2.2.2.2.1)))))), ((cell_far (p := ⟨gb643, _, none⟩) NB630_643.out _).trans (((cell_far (p := ⟨gb643, _, none⟩) NB630_643.out _).trans (((cell_far (p := ⟨gb643, _, none⟩) NB630_643.out _).trans (hHeld.2.2.2.2.2))))))⟩ (fun hHeld => ?_)
          clear hK K
          refine pure_ (i := 11) (N := some 9) (v := ?_) (a' := ?_) #[true, true, true, true, true, true, true, true, true, true, true, true] rfl rfl (any_of HT_.out (by kernel_rfl)) (fun _ _ _ h => h) (Or.inl ⟨by rfl, ?_⟩) ?_ ?_
          rotate_left
          · intro w'
            go_simp
            with_reducible rfl
          rotate_left
          · simp only [Act.put, List.setIfInBounds_toArray, List.set_cons_zero, List.set_cons_succ, i64_w, i32_w]
            rfl
          refine done_ (done_of HT_.out (by kernel_rfl)) ?_
          try go_wp2
          have n0_ : Aside0 ((((w41.setCell ⟨gb643, 0, none⟩ (.int .i64 t639)).setCell ⟨gb643, 1, none⟩ (.int .i64 t640)).setCell ⟨gb643, 2, none⟩ (.string t641)).heap[gb629]? = some (.cells #[.int .i64 a1_0, .int .i64 a1_1, .string a1_2] 31 (0, 0))) := ⟨by (with_reducible repeat (first | refine blk_drewN ?_ _ | refine blk_drew ?_ | refine blk_alloc ?_ _)); refine blk_far ?_ NB629_643.out _; (with_reducible repeat (first | refine blk_drewN ?_ _ | refine blk_drew ?_ | refine blk_alloc ?_ _)); refine blk_far ?_ NB629_643.out _; (with_reducible repeat (first | refine blk_drewN ?_ _ | refine blk_drew ?_ | refine blk_alloc ?_ _)); refine blk_far ?_ NB629_643.out _; (with_reducible repeat (first | refine blk_drewN ?_ _ | refine blk_drew ?_ | refine blk_alloc ?_ _)); exact BK629.out⟩
          have n1_ : Aside0 ((((w41.setCell ⟨gb643, 0, none⟩ (.int .i64 t639)).setCell ⟨gb643, 1, none⟩ (.int .i64 t640)).setCell ⟨gb643, 2, none⟩ (.string t641)).heap[gb630]? = some (.cells #[.int .i64 a2_0, .int .i64 a2_1, .string a2_2] 31 (0, 0))) := ⟨by (with_reducible repeat (first | refine blk_drewN ?_ _ | refine blk_drew ?_ | refine blk_alloc ?_ _)); refine blk_far ?_ NB630_643.out _; (with_reducible repeat (first | refine blk_drewN ?_ _ | refine blk_drew ?_ | refine blk_alloc ?_ _)); refine blk_far ?_ NB630_643.out _; (with_reducible repeat (first | refine blk_drewN ?_ _ | refine blk_drew ?_ | refine blk_alloc ?_ _)); refine blk_far ?_ NB630_643.out _; (with_reducible repeat (first | refine blk_drewN ?_ _ | refine blk_drew ?_ | refine blk_alloc ?_ _)); exact BK630.out⟩
          have n2_ : Aside0 ((((w41.setCell ⟨gb643, 0, none⟩ (.int .i64 t639)).setCell ⟨gb643, 1, none⟩ (.int .i64 t640)).setCell ⟨gb643, 2, none⟩ (.string t641)).heap[gb643]? = some (.cells #[.int .i64 t639, .int .i64 t640, .string t641] 34 (0, 0))) := ⟨by (with_reducible repeat (first | refine blk_drewN ?_ _ | refine blk_drew ?_ | refine blk_alloc ?_ _)); refine blk_put (cs := #[.int .i64 t639, .int .i64 t640, .string (⟨#[]⟩ : ByteArray)]) ?_ 2 _ rfl; (with_reducible repeat (first | refine blk_drewN ?_ _ | refine blk_drew ?_ | refine blk_alloc ?_ _)); refine blk_put (cs := #[.int .i64 t639, .int .i64 0, .string (⟨#[]⟩ : ByteArray)]) ?_ 1 _ rfl; (with_reducible repeat (first | refine blk_drewN ?_ _ | refine blk_drew ?_ | refine blk_alloc ?_ _)); refine blk_put (cs := #[.int .i64 0, .int .i64 0, .string (⟨#[]⟩ : ByteArray)]) ?_ 0 _ rfl; (with_reducible repeat (first | refine blk_drewN ?_ _ | refine blk_drew ?_ | refine blk_alloc ?_ _)); exact BK643.out⟩
          have n3_ : Aside0 (Below w.heap.size w (((w41.setCell ⟨gb643, 0, none⟩ (.int .i64 t639)).setCell ⟨gb643, 1, none⟩ (.int .i64 t640)).setCell ⟨gb643, 2, none⟩ (.string t641))) := ⟨by repeat (first | (with_reducible first | exact HB.out | apply below_alloc | apply pw_below_drewN | apply below_drew1 | refine below_set ?_ GE629.out | refine below_set ?_ GE630.out | refine below_set ?_ GE643.out) | exact HB.out)⟩
          (try clear BK629)
          (try clear BK630)
          (try clear BK643)
          (try clear HB)
          generalize (((w41.setCell ⟨gb643, 0, none⟩ (.int .i64 t639)).setCell ⟨gb643, 1, none⟩ (.int .i64 t640)).setCell ⟨gb643, 2, none⟩ (.string t641)) = w45 at n0_ n1_ n2_ n3_ ⊢
          have BK629 := n0_
          have BK630 := n1_
          have BK643 := n2_
          have HB := n3_
          clear n0_ n1_ n2_ n3_
          have n0_ := Aside0.mk (blk_drew BK629.out)
          have n1_ := Aside0.mk (blk_drew BK630.out)
          have n2_ := Aside0.mk (blk_drew BK643.out)
          have n3_ := Aside0.mk (below_drew1 HB.out)
          clear BK629
          clear BK630
          clear BK643
          clear HB
          have BK629 := n0_
          have BK630 := n1_
          have BK643 := n2_
          have HB := n3_
          clear n0_ n1_ n2_ n3_
          refine start_ (n := 12) (S := fun w' => w'.cell? ⟨gb629, 0, none⟩ = some (.int .i64 a1_0) ∧ w'.cell? ⟨gb629, 1, none⟩ = some (.int .i64 a1_1) ∧ w'.cell? ⟨gb629, 2, none⟩ = some (.string a1_2) ∧ w'.cell? ⟨gb630, 0, none⟩ = some (.int .i64 a2_0) ∧ w'.cell? ⟨gb630, 1, none⟩ = some (.int .i64 a2_1) ∧ w'.cell? ⟨gb630, 2, none⟩ = some (.string a2_2)) (ds := []) #[false, false, false, false, false, false, false, false, false, false, false, false] (by kernel_rfl) rfl rfl ⟨(blk_cell BK629.out 0).trans rfl, (blk_cell BK629.out 1).trans rfl, (blk_cell BK629.out 2).trans rfl, (blk_cell BK630.out 0).trans rfl, (blk_cell BK630.out 1).trans rfl, (blk_cell BK630.out 2).trans rfl⟩ (fun hHeld => ?_); refine with_tabW laws_FnExactBinary.tab9 laws_FnExactBinary.bits9 (fun HT_ HW_ => ?_)
          generalize w45.drew = w46 at BK629 BK630 BK643 HB hHeld ⊢
          refine pure_ (i := 0) (N := some 32) (v := ?_) (a' := ?_) #[true, false, false, false, false, false, false, false, false, false, false, false] rfl rfl (any_of HT_.out (by kernel_rfl)) (fun _ _ _ h => h) (Or.inl ⟨by rfl, ?_⟩) ?_ ?_
          rotate_left
          · intro w'
            go_simp
            with_reducible rfl
          rotate_left
          · simp only [Act.put, List.setIfInBounds_toArray, List.set_cons_zero, List.set_cons_succ, i64_w, i32_w]
            rfl
          refine take_ (i := 1) (N := some 33) (v := ?_) (a' := ?_) #[true, true, false, false, false, false, false, false, false, false, false, false] rfl rfl (take_ofW HT_.out HW_.out (by kernel_rfl)) (fun _ _ _ h => h) (Or.inl ⟨by rfl, ?_⟩) hHeld ?_ ?_
          rotate_left
          · rintro w' ⟨s0, s1, s2, s3, s4, s5⟩
            go_simp
            with_reducible rfl
          rotate_left
          · simp only [Act.put, List.setIfInBounds_toArray, List.set_cons_zero, List.set_cons_succ, i64_w, i32_w]
            rfl
          refine take_ (i := 3) (N := some 35) (v := ?_) (a' := ?_) #[true, true, false, true, false, false, false, false, false, false, false, false] rfl rfl (take_ofW HT_.out HW_.out (by kernel_rfl)) (fun _ _ _ h => h) (Or.inl ⟨by rfl, ?_⟩) hHeld ?_ ?_
          rotate_left
          · rintro w' ⟨s0, s1, s2, s3, s4, s5⟩
            go_simp
            with_reducible rfl
          rotate_left
          · simp only [Act.put, List.setIfInBounds_toArray, List.set_cons_zero, List.set_cons_succ, i64_w, i32_w]
            rfl
          refine join_ (σ := Nat) 2 #[true, true, true, true, true, true, true, true, true, true, false, false] (fun s_ => [(34, .agg #[.int .i64 t644, .int .i64 t645, .string t646]), (36, .agg #[.int .i64 t647, .int .i64 t648, .string t649]), (37, .tuple #[.agg #[.int .i64 t650, .int .i64 t651, .string t652], .string t653]), (10, .pointer (some ⟨s_, 0, none⟩)), (31, .tuple #[.agg #[.int .i64 t650, .int .i64 t651, .string t652], .string t653]), (38, .agg #[.int .i64 t650, .int .i64 t651, .string t652]), (39, .string t653)]) (fun s_ w' => (w'.cell? ⟨gb629, 0, none⟩ = some (.int .i64 a1_0) ∧ w'.cell? ⟨gb629, 1, none⟩ = some (.int .i64 a1_1) ∧ w'.cell? ⟨gb629, 2, none⟩ = some (.string a1_2) ∧ w'.cell? ⟨gb630, 0, none⟩ = some (.int .i64 a2_0) ∧ w'.cell? ⟨gb630, 1, none⟩ = some (.int .i64 a2_1) ∧ w'.cell? ⟨gb630, 2, none⟩ = some (.string a2_2)) ∧ (w'.heap[gb629]? = some (.cells #[.int .i64 a1_0, .int .i64 a1_1, .string a1_2] 31 (0, 0))) ∧ (w'.heap[gb630]? = some (.cells #[.int .i64 a2_0, .int .i64 a2_1, .string a2_2] 31 (0, 0))) ∧ (w'.heap[gb643]? = some (.cells #[.int .i64 t639, .int .i64 t640, .string t641] 34 (0, 0))) ∧ (w'.heap[s_]? = some (.cells #[.int .i64 0, .int .i64 0, .string (⟨#[]⟩ : ByteArray)] 34 (0, 0))) ∧ (w.heap.size ≤ s_) ∧ (w.heap.size ≤ s_) ∧ (gb629 ≠ s_) ∧ (s_ ≠ gb629) ∧ (gb630 ≠ s_) ∧ (s_ ≠ gb630) ∧ (gb643 ≠ s_) ∧ (s_ ≠ gb643) ∧ (Below w.heap.size w w')) ?_ ?_
          rotate_left
          · intro hCont
            refine two_ (i := 2) (j := 9) (Ni := some 34) (Nj := some 10) #[true, true, true, true, false, false, false, false, false, false, false, false] #[true, true, false, true, false, false, false, false, false, true, false, false] rfl rfl rfl rfl (two_of HT_.out (by kernel_rfl)) (by decide) (by decide) (fun K hK => ?_) (fun K hK => ?_)
            · skip
              refine goes_ Try.func21 (by kernel_rfl) rfl #[.agg #[.int .i64 a1_0, .int .i64 a1_1, .string a1_2]] (by rfl) rfl rfl (by (try simp only [List.map_toArray, List.map_cons, List.map_nil]); first | done | rfl | (simp only [List.length_drop, List.length_take]; rfl)) ?_
              with_reducible refine (laws_toValue.calls a1_0 a1_1 a1_2 t644 t645 t646 _ A23.out).mono ?_
              rintro e w47 ⟨rfl, hb⟩
              refine ⟨_, rfl, ?_⟩
              have n0_ := Aside0.mk (blk_below (g := gb629) (o := .cells #[.int .i64 a1_0, .int .i64 a1_1, .string a1_2] 31 (0, 0)) (by (with_reducible repeat (first | refine blk_drewN ?_ _ | refine blk_drew ?_ | refine blk_alloc ?_ _)); exact BK629.out) hb)
              have n1_ := Aside0.mk (blk_below (g := gb630) (o := .cells #[.int .i64 a2_0, .int .i64 a2_1, .string a2_2] 31 (0, 0)) (by (with_reducible repeat (first | refine blk_drewN ?_ _ | refine blk_drew ?_ | refine blk_alloc ?_ _)); exact BK630.out) hb)
              have n2_ := Aside0.mk (blk_below (g := gb643) (o := .cells #[.int .i64 t639, .int .i64 t640, .string t641] 34 (0, 0)) (by (with_reducible repeat (first | refine blk_drewN ?_ _ | refine blk_drew ?_ | refine blk_alloc ?_ _)); exact BK643.out) hb)
              have n3_ := Aside0.mk (below_step (by repeat (first | (with_reducible first | exact HB.out | apply below_alloc | apply pw_below_drewN | apply below_drew1 | refine below_set ?_ GE629.out | refine below_set ?_ GE630.out | refine below_set ?_ GE643.out) | exact HB.out)) hb)
              clear BK629
              clear BK630
              clear BK643
              clear HB
              have BK629 := n0_
              have BK630 := n1_
              have BK643 := n2_
              have HB := n3_
              clear n0_ n1_ n2_ n3_
              (try clear hb)
              (try clear hb2)
              (try clear hk)
              (try clear hi)
              refine hK.out _ _ ⟨(blk_cell BK629.out 0).trans rfl, (blk_cell BK629.out 1).trans rfl, (blk_cell BK629.out 2).trans rfl, (blk_cell BK630.out 0).trans rfl, (blk_cell BK630.out 1).trans rfl, (blk_cell BK630.out 2).trans rfl⟩ (fun hHeld => ?_)
              clear hK K
              refine norm_ (a' := ?_) ?_ ?_
              rotate_left
              · show Act.put _ (some 34) _ = _
                simp only [Act.put, List.setIfInBounds_toArray, List.set_cons_zero, List.set_cons_succ, i64_w, i32_w]
                rfl
              refine two_ (i := 4) (j := 9) (Ni := some 36) (Nj := some 10) #[true, true, true, true, true, false, false, false, false, false, false, false] #[true, true, true, true, false, false, false, false, false, true, false, false] rfl rfl rfl rfl (two_of HT_.out (by kernel_rfl)) (by decide) (by decide) (fun K hK => ?_) (fun K hK => ?_)
              · skip
                refine goes_ Try.func21 (by kernel_rfl) rfl #[.agg #[.int .i64 a2_0, .int .i64 a2_1, .string a2_2]] (by rfl) rfl rfl (by (try simp only [List.map_toArray, List.map_cons, List.map_nil]); first | done | rfl | (simp only [List.length_drop, List.length_take]; rfl)) ?_
                with_reducible refine (laws_toValue.calls a2_0 a2_1 a2_2 t647 t648 t649 _ A24.out).mono ?_
                rintro e w48 ⟨rfl, hb⟩
                refine ⟨_, rfl, ?_⟩
                have n0_ := Aside0.mk (blk_below (g := gb629) (o := .cells #[.int .i64 a1_0, .int .i64 a1_1, .string a1_2] 31 (0, 0)) (by (with_reducible repeat (first | refine blk_drewN ?_ _ | refine blk_drew ?_ | refine blk_alloc ?_ _)); exact BK629.out) hb)
                have n1_ := Aside0.mk (blk_below (g := gb630) (o := .cells #[.int .i64 a2_0, .int .i64 a2_1, .string a2_2] 31 (0, 0)) (by (with_reducible repeat (first | refine blk_drewN ?_ _ | refine blk_drew ?_ | refine blk_alloc ?_ _)); exact BK630.out) hb)
                have n2_ := Aside0.mk (blk_below (g := gb643) (o := .cells #[.int .i64 t639, .int .i64 t640, .string t641] 34 (0, 0)) (by (with_reducible repeat (first | refine blk_drewN ?_ _ | refine blk_drew ?_ | refine blk_alloc ?_ _)); exact BK643.out) hb)
                have n3_ := Aside0.mk (below_step (by repeat (first | (with_reducible first | exact HB.out | apply below_alloc | apply pw_below_drewN | apply below_drew1 | refine below_set ?_ GE629.out | refine below_set ?_ GE630.out | refine below_set ?_ GE643.out) | exact HB.out)) hb)
                clear BK629
                clear BK630
                clear BK643
                clear HB
                have BK629 := n0_
                have BK630 := n1_
                have BK643 := n2_
                have HB := n3_
                clear n0_ n1_ n2_ n3_
                (try clear hb)
                (try clear hb2)
                (try clear hk)
                (try clear hi)
                refine hK.out _ _ ⟨(blk_cell BK629.out 0).trans rfl, (blk_cell BK629.out 1).trans rfl, (blk_cell BK629.out 2).trans rfl, (blk_cell BK630.out 0).trans rfl, (blk_cell BK630.out 1).trans rfl, (blk_cell BK630.out 2).trans rfl⟩ (fun hHeld => ?_)
                clear hK K
                refine norm_ (a' := ?_) ?_ ?_
                rotate_left
                · show Act.put _ (some 36) _ = _
                  simp only [Act.put, List.setIfInBounds_toArray, List.set_cons_zero, List.set_cons_succ, i64_w, i32_w]
                  rfl
                refine two_ (i := 5) (j := 9) (Ni := some 37) (Nj := some 10) #[true, true, true, true, true, true, false, false, false, false, false, false] #[true, true, true, true, true, false, false, false, false, true, false, false] rfl rfl rfl rfl (two_of HT_.out (by kernel_rfl)) (by decide) (by decide) (fun K hK => ?_) (fun K hK => ?_)
                · skip
                  refine goes_ Try.func55 (by kernel_rfl) rfl #[.int .i64 a0, .agg #[.int .i64 t644, .int .i64 t645, .string t646], .agg #[.int .i64 t647, .int .i64 t648, .string t649]] (by rfl) rfl rfl (by (try simp only [List.map_toArray, List.map_cons, List.map_nil]); first | done | rfl | (simp only [List.length_drop, List.length_take]; rfl)) ?_
                  with_reducible refine (impl_Binary.calls k a0 t644 t645 t646 t647 t648 t649 t650 t651 t652 t653 _ A25.out).mono ?_
                  rintro e w49 ⟨rfl, hb⟩
                  refine ⟨_, rfl, ?_⟩
                  have n0_ := Aside0.mk (blk_below (g := gb629) (o := .cells #[.int .i64 a1_0, .int .i64 a1_1, .string a1_2] 31 (0, 0)) (by (with_reducible repeat (first | refine blk_drewN ?_ _ | refine blk_drew ?_ | refine blk_alloc ?_ _)); exact BK629.out) hb)
                  have n1_ := Aside0.mk (blk_below (g := gb630) (o := .cells #[.int .i64 a2_0, .int .i64 a2_1, .string a2_2] 31 (0, 0)) (by (with_reducible repeat (first | refine blk_drewN ?_ _ | refine blk_drew ?_ | refine blk_alloc ?_ _)); exact BK630.out) hb)
                  have n2_ := Aside0.mk (blk_below (g := gb643) (o := .cells #[.int .i64 t639, .int .i64 t640, .string t641] 34 (0, 0)) (by (with_reducible repeat (first | refine blk_drewN ?_ _ | refine blk_drew ?_ | refine blk_alloc ?_ _)); exact BK643.out) hb)
                  have n3_ := Aside0.mk (below_step (by repeat (first | (with_reducible first | exact HB.out | apply below_alloc | apply pw_below_drewN | apply below_drew1 | refine below_set ?_ GE629.out | refine below_set ?_ GE630.out | refine below_set ?_ GE643.out) | exact HB.out)) hb)
                  clear BK629
                  clear BK630
                  clear BK643
                  clear HB
                  have BK629 := n0_
                  have BK630 := n1_
                  have BK643 := n2_
                  have HB := n3_
                  clear n0_ n1_ n2_ n3_
                  (try clear hb)
                  (try clear hb2)
                  (try clear hk)
                  (try clear hi)
                  refine hK.out _ _ ⟨(blk_cell BK629.out 0).trans rfl, (blk_cell BK629.out 1).trans rfl, (blk_cell BK629.out 2).trans rfl, (blk_cell BK630.out 0).trans rfl, (blk_cell BK630.out 1).trans rfl, (blk_cell BK630.out 2).trans rfl⟩ (fun hHeld => ?_)
                  clear hK K
                  refine norm_ (a' := ?_) ?_ ?_
                  rotate_left
                  · show Act.put _ (some 37) _ = _
                    simp only [Act.put, List.setIfInBounds_toArray, List.set_cons_zero, List.set_cons_succ, i64_w, i32_w]
                    rfl
                  refine pure_ (i := 6) (N := some 31) (v := ?_) (a' := ?_) #[true, true, true, true, true, true, true, false, false, false, false, false] rfl rfl (any_of HT_.out (by kernel_rfl)) (fun _ _ _ h => h) (Or.inl ⟨by rfl, ?_⟩) ?_ ?_
                  rotate_left
                  · intro w'
                    go_simp
                    with_reducible rfl
                  rotate_left
                  · simp only [Act.put, List.setIfInBounds_toArray, List.set_cons_zero, List.set_cons_succ, i64_w, i32_w]
                    rfl
                  refine pure_ (i := 7) (N := some 38) (v := ?_) (a' := ?_) #[true, true, true, true, true, true, true, true, false, false, false, false] rfl rfl (any_of HT_.out (by kernel_rfl)) (fun _ _ _ h => h) (Or.inl ⟨by rfl, ?_⟩) ?_ ?_
                  rotate_left
                  · intro w'
                    go_simp
                    with_reducible rfl
                  rotate_left
                  · simp only [Act.put, List.setIfInBounds_toArray, List.set_cons_zero, List.set_cons_succ, i64_w, i32_w]
                    rfl
                  refine pure_ (i := 8) (N := some 39) (v := ?_) (a' := ?_) #[true, true, true, true, true, true, true, true, true, false, false, false] rfl rfl (any_of HT_.out (by kernel_rfl)) (fun _ _ _ h => h) (Or.inl ⟨by rfl, ?_⟩) ?_ ?_
                  rotate_left
                  · intro w'
                    go_simp
                    with_reducible rfl
                  rotate_left
                  · simp only [Act.put, List.setIfInBounds_toArray, List.set_cons_zero, List.set_cons_succ, i64_w, i32_w]
                    rfl
                  refine one_ (i := 9) (N := some 10) #[true, true, true, true, true, true, true, true, true, true, false, false] rfl rfl (one_of HT_.out (by kernel_rfl)) (by decide) (fun K hK => ?_)
                  refine box_step ?hg (N := 10) ?hd (cs := #[.int .i64 0, .int .i64 0, .string (⟨#[]⟩ : ByteArray)]) (t := 34) ?hr ?_; (case hd => rfl); (case hg => rfl); (case hr => first | (go_simp; done) | (go_simp; rfl))
                  intro gb654 hg w50 hbox hb
                  have n0_ := Aside0.mk (blk_below (g := gb629) (o := .cells #[.int .i64 a1_0, .int .i64 a1_1, .string a1_2] 31 (0, 0)) (by (with_reducible repeat (first | refine blk_drewN ?_ _ | refine blk_drew ?_ | refine blk_alloc ?_ _)); exact BK629.out) hb)
                  have n1_ := Aside0.mk (blk_below (g := gb630) (o := .cells #[.int .i64 a2_0, .int .i64 a2_1, .string a2_2] 31 (0, 0)) (by (with_reducible repeat (first | refine blk_drewN ?_ _ | refine blk_drew ?_ | refine blk_alloc ?_ _)); exact BK630.out) hb)
                  have n2_ := Aside0.mk (blk_below (g := gb643) (o := .cells #[.int .i64 t639, .int .i64 t640, .string t641] 34 (0, 0)) (by (with_reducible repeat (first | refine blk_drewN ?_ _ | refine blk_drew ?_ | refine blk_alloc ?_ _)); exact BK643.out) hb)
                  have n3_ := Aside0.mk (below_step (by repeat (first | (with_reducible first | exact HB.out | apply below_alloc | apply pw_below_drewN | apply below_drew1 | refine below_set ?_ GE629.out | refine below_set ?_ GE630.out | refine below_set ?_ GE643.out) | exact HB.out)) hb)
                  have n4_ := Aside0.mk (hbox)
                  have n5_ := Aside0.mk ((by rw [hg]; exact (below_size (by repeat (first | (with_reducible first | exact HB.out | apply below_alloc | apply pw_below_drewN | apply below_drew1 | refine below_set ?_ GE629.out | refine below_set ?_ GE630.out | refine below_set ?_ GE643.out) | exact HB.out))) : w.heap.size ≤ gb654))
                  have n6_ := Aside0.mk ((by rw [hg]; exact (below_size (by repeat (first | (with_reducible first | exact HB.out | apply below_alloc | apply pw_below_drewN | apply below_drew1 | refine below_set ?_ GE629.out | refine below_set ?_ GE630.out | refine below_set ?_ GE643.out) | exact HB.out))) : w.heap.size ≤ gb654))
                  have n7_ := Aside0.mk ((by rw [hg]; exact Nat.ne_of_lt (blk_lt (g := gb629) (o := .cells #[.int .i64 a1_0, .int .i64 a1_1, .string a1_2] 31 (0, 0)) (by (with_reducible repeat (first | refine blk_drewN ?_ _ | refine blk_drew ?_ | refine blk_alloc ?_ _)); exact BK629.out)) : gb629 ≠ gb654))
                  have n8_ := Aside0.mk ((by rw [hg]; exact Nat.ne_of_gt (blk_lt (g := gb629) (o := .cells #[.int .i64 a1_0, .int .i64 a1_1, .string a1_2] 31 (0, 0)) (by (with_reducible repeat (first | refine blk_drewN ?_ _ | refine blk_drew ?_ | refine blk_alloc ?_ _)); exact BK629.out)) : gb654 ≠ gb629))
                  have n9_ := Aside0.mk ((by rw [hg]; exact Nat.ne_of_lt (blk_lt (g := gb630) (o := .cells #[.int .i64 a2_0, .int .i64 a2_1, .string a2_2] 31 (0, 0)) (by (with_reducible repeat (first | refine blk_drewN ?_ _ | refine blk_drew ?_ | refine blk_alloc ?_ _)); exact BK630.out)) : gb630 ≠ gb654))
                  have n10_ := Aside0.mk ((by rw [hg]; exact Nat.ne_of_gt (blk_lt (g := gb630) (o := .cells #[.int .i64 a2_0, .int .i64 a2_1, .string a2_2] 31 (0, 0)) (by (with_reducible repeat (first | refine blk_drewN ?_ _ | refine blk_drew ?_ | refine blk_alloc ?_ _)); exact BK630.out)) : gb654 ≠ gb630))
                  have n11_ := Aside0.mk ((by rw [hg]; exact Nat.ne_of_lt (blk_lt (g := gb643) (o := .cells #[.int .i64 t639, .int .i64 t640, .string t641] 34 (0, 0)) (by (with_reducible repeat (first | refine blk_drewN ?_ _ | refine blk_drew ?_ | refine blk_alloc ?_ _)); exact BK643.out)) : gb643 ≠ gb654))
                  have n12_ := Aside0.mk ((by rw [hg]; exact Nat.ne_of_gt (blk_lt (g := gb643) (o := .cells #[.int .i64 t639, .int .i64 t640, .string t641] 34 (0, 0)) (by (with_reducible repeat (first | refine blk_drewN ?_ _ | refine blk_drew ?_ | refine blk_alloc ?_ _)); exact BK643.out)) : gb654 ≠ gb643))
                  clear BK629
                  clear BK630
                  clear BK643
                  clear HB
                  have BK629 := n0_
                  have BK630 := n1_
                  have BK643 := n2_
                  have HB := n3_
                  have BK654 := n4_
                  have GW654 := n5_
                  have GE654 := n6_
                  have NB629_654 := n7_
                  have NB654_629 := n8_
                  have NB630_654 := n9_
                  have NB654_630 := n10_
                  have NB643_654 := n11_
                  have NB654_643 := n12_
                  clear n0_ n1_ n2_ n3_ n4_ n5_ n6_ n7_ n8_ n9_ n10_ n11_ n12_
                  clear hb hbox hg
                  refine hK.out _ _ ⟨(blk_cell BK629.out 0).trans rfl, (blk_cell BK629.out 1).trans rfl, (blk_cell BK629.out 2).trans rfl, (blk_cell BK630.out 0).trans rfl, (blk_cell BK630.out 1).trans rfl, (blk_cell BK630.out 2).trans rfl⟩ (fun hHeld => ?_)
                  clear hK K
                  refine norm_ (a' := ?_) ?_ ?_
                  rotate_left
                  · show Act.put _ (some 10) _ = _
                    simp only [Act.put, List.setIfInBounds_toArray, List.set_cons_zero, List.set_cons_succ, i64_w, i32_w]
                    rfl
                  exact norm_ (by simp only [putAll, Act.put, List.setIfInBounds_toArray, List.set_cons_zero, List.set_cons_succ]) (hCont (gb654) _ ⟨hHeld, (by (with_reducible repeat (first | refine blk_drewN ?_ _ | refine blk_drew ?_ | refine blk_alloc ?_ _)); exact BK629.out), (by (with_reducible repeat (first | refine blk_drewN ?_ _ | refine blk_drew ?_ | refine blk_alloc ?_ _)); exact BK630.out), (by (with_reducible repeat (first | refine blk_drewN ?_ _ | refine blk_drew ?_ | refine blk_alloc ?_ _)); exact BK643.out), (by (with_reducible repeat (first | refine blk_drewN ?_ _ | refine blk_drew ?_ | refine blk_alloc ?_ _)); exact BK654.out), GW654.out, GE654.out, NB629_654.out, NB654_629.out, NB630_654.out, NB654_630.out, NB643_654.out, NB654_643.out, (by repeat (first | (with_reducible first | exact HB.out | apply below_alloc | apply pw_below_drewN | apply below_drew1 | refine below_set ?_ GE629.out | refine below_set ?_ GE630.out | refine below_set ?_ GE643.out | refine below_set ?_ GE654.out) | exact HB.out))⟩)
                · skip
                  refine box_step ?hg (N := 10) ?hd (cs := #[.int .i64 0, .int .i64 0, .string (⟨#[]⟩ : ByteArray)]) (t := 34) ?hr ?_; (case hd => rfl); (case hg => rfl); (case hr => first | (go_simp; done) | (go_simp; rfl))
                  intro gb654 hg w49 hbox hb
                  have n0_ := Aside0.mk (blk_below (g := gb629) (o := .cells #[.int .i64 a1_0, .int .i64 a1_1, .string a1_2] 31 (0, 0)) (by (with_reducible repeat (first | refine blk_drewN ?_ _ | refine blk_drew ?_ | refine blk_alloc ?_ _)); exact BK629.out) hb)
                  have n1_ := Aside0.mk (blk_below (g := gb630) (o := .cells #[.int .i64 a2_0, .int .i64 a2_1, .string a2_2] 31 (0, 0)) (by (with_reducible repeat (first | refine blk_drewN ?_ _ | refine blk_drew ?_ | refine blk_alloc ?_ _)); exact BK630.out) hb)
                  have n2_ := Aside0.mk (blk_below (g := gb643) (o := .cells #[.int .i64 t639, .int .i64 t640, .string t641] 34 (0, 0)) (by (with_reducible repeat (first | refine blk_drewN ?_ _ | refine blk_drew ?_ | refine blk_alloc ?_ _)); exact BK643.out) hb)
                  have n3_ := Aside0.mk (below_step (by repeat (first | (with_reducible first | exact HB.out | apply below_alloc | apply pw_below_drewN | apply below_drew1 | refine below_set ?_ GE629.out | refine below_set ?_ GE630.out | refine below_set ?_ GE643.out) | exact HB.out)) hb)
                  have n4_ := Aside0.mk (hbox)
                  have n5_ := Aside0.mk ((by rw [hg]; exact (below_size (by repeat (first | (with_reducible first | exact HB.out | apply below_alloc | apply pw_below_drewN | apply below_drew1 | refine below_set ?_ GE629.out | refine below_set ?_ GE630.out | refine below_set ?_ GE643.out) | exact HB.out))) : w.heap.size ≤ gb654))
                  have n6_ := Aside0.mk ((by rw [hg]; exact (below_size (by repeat (first | (with_reducible first | exact HB.out | apply below_alloc | apply pw_below_drewN | apply below_drew1 | refine below_set ?_ GE629.out | refine below_set ?_ GE630.out | refine below_set ?_ GE643.out) | exact HB.out))) : w.heap.size ≤ gb654))
                  have n7_ := Aside0.mk ((by rw [hg]; exact Nat.ne_of_lt (blk_lt (g := gb629) (o := .cells #[.int .i64 a1_0, .int .i64 a1_1, .string a1_2] 31 (0, 0)) (by (with_reducible repeat (first | refine blk_drewN ?_ _ | refine blk_drew ?_ | refine blk_alloc ?_ _)); exact BK629.out)) : gb629 ≠ gb654))
                  have n8_ := Aside0.mk ((by rw [hg]; exact Nat.ne_of_gt (blk_lt (g := gb629) (o := .cells #[.int .i64 a1_0, .int .i64 a1_1, .string a1_2] 31 (0, 0)) (by (with_reducible repeat (first | refine blk_drewN ?_ _ | refine blk_drew ?_ | refine blk_alloc ?_ _)); exact BK629.out)) : gb654 ≠ gb629))
                  have n9_ := Aside0.mk ((by rw [hg]; exact Nat.ne_of_lt (blk_lt (g := gb630) (o := .cells #[.int .i64 a2_0, .int .i64 a2_1, .string a2_2] 31 (0, 0)) (by (with_reducible repeat (first | refine blk_drewN ?_ _ | refine blk_drew ?_ | refine blk_alloc ?_ _)); exact BK630.out)) : gb630 ≠ gb654))
                  have n10_ := Aside0.mk ((by rw [hg]; exact Nat.ne_of_gt (blk_lt (g := gb630) (o := .cells #[.int .i64 a2_0, .int .i64 a2_1, .string a2_2] 31 (0, 0)) (by (with_reducible repeat (first | refine blk_drewN ?_ _ | refine blk_drew ?_ | refine blk_alloc ?_ _)); exact BK630.out)) : gb654 ≠ gb630))
                  have n11_ := Aside0.mk ((by rw [hg]; exact Nat.ne_of_lt (blk_lt (g := gb643) (o := .cells #[.int .i64 t639, .int .i64 t640, .string t641] 34 (0, 0)) (by (with_reducible repeat (first | refine blk_drewN ?_ _ | refine blk_drew ?_ | refine blk_alloc ?_ _)); exact BK643.out)) : gb643 ≠ gb654))
                  have n12_ := Aside0.mk ((by rw [hg]; exact Nat.ne_of_gt (blk_lt (g := gb643) (o := .cells #[.int .i64 t639, .int .i64 t640, .string t641] 34 (0, 0)) (by (with_reducible repeat (first | refine blk_drewN ?_ _ | refine blk_drew ?_ | refine blk_alloc ?_ _)); exact BK643.out)) : gb654 ≠ gb643))
                  clear BK629
                  clear BK630
                  clear BK643
                  clear HB
                  have BK629 := n0_
                  have BK630 := n1_
                  have BK643 := n2_
                  have HB := n3_
                  have BK654 := n4_
                  have GW654 := n5_
                  have GE654 := n6_
                  have NB629_654 := n7_
                  have NB654_629 := n8_
                  have NB630_654 := n9_
                  have NB654_630 := n10_
                  have NB643_654 := n11_
                  have NB654_643 := n12_
                  clear n0_ n1_ n2_ n3_ n4_ n5_ n6_ n7_ n8_ n9_ n10_ n11_ n12_
                  clear hb hbox hg
                  refine hK.out _ _ ⟨(blk_cell BK629.out 0).trans rfl, (blk_cell BK629.out 1).trans rfl, (blk_cell BK629.out 2).trans rfl, (blk_cell BK630.out 0).trans rfl, (blk_cell BK630.out 1).trans rfl, (blk_cell BK630.out 2).trans rfl⟩ (fun hHeld => ?_)
                  clear hK K
                  refine norm_ (a' := ?_) ?_ ?_
                  rotate_left
                  · show Act.put _ (some 10) _ = _
                    simp only [Act.put, List.setIfInBounds_toArray, List.set_cons_zero, List.set_cons_succ, i64_w, i32_w]
                    rfl
                  refine one_ (i := 5) (N := some 37) #[true, true, true, true, true, true, false, false, false, true, false, false] rfl rfl (one_of HT_.out (by kernel_rfl)) (by decide) (fun K hK => ?_)
                  refine goes_ Try.func55 (by kernel_rfl) rfl #[.int .i64 a0, .agg #[.int .i64 t644, .int .i64 t645, .string t646], .agg #[.int .i64 t647, .int .i64 t648, .string t649]] (by rfl) rfl rfl (by (try simp only [List.map_toArray, List.map_cons, List.map_nil]); first | done | rfl | (simp only [List.length_drop, List.length_take]; rfl)) ?_
                  with_reducible refine (impl_Binary.calls k a0 t644 t645 t646 t647 t648 t649 t650 t651 t652 t653 _ A25.out).mono ?_
                  rintro e w50 ⟨rfl, hb⟩
                  refine ⟨_, rfl, ?_⟩
                  have n0_ := Aside0.mk (blk_below (g := gb629) (o := .cells #[.int .i64 a1_0, .int .i64 a1_1, .string a1_2] 31 (0, 0)) (by (with_reducible repeat (first | refine blk_drewN ?_ _ | refine blk_drew ?_ | refine blk_alloc ?_ _)); exact BK629.out) hb)
                  have n1_ := Aside0.mk (blk_below (g := gb630) (o := .cells #[.int .i64 a2_0, .int .i64 a2_1, .string a2_2] 31 (0, 0)) (by (with_reducible repeat (first | refine blk_drewN ?_ _ | refine blk_drew ?_ | refine blk_alloc ?_ _)); exact BK630.out) hb)
                  have n2_ := Aside0.mk (blk_below (g := gb643) (o := .cells #[.int .i64 t639, .int .i64 t640, .string t641] 34 (0, 0)) (by (with_reducible repeat (first | refine blk_drewN ?_ _ | refine blk_drew ?_ | refine blk_alloc ?_ _)); exact BK643.out) hb)
                  have n3_ := Aside0.mk (blk_below (g := gb654) (o := .cells #[.int .i64 0, .int .i64 0, .string (⟨#[]⟩ : ByteArray)] 34 (0, 0)) (by (with_reducible repeat (first | refine blk_drewN ?_ _ | refine blk_drew ?_ | refine blk_alloc ?_ _)); exact BK654.out) hb)
                  have n4_ := Aside0.mk (below_step (by repeat (first | (with_reducible first | exact HB.out | apply below_alloc | apply pw_below_drewN | apply below_drew1 | refine below_set ?_ GE629.out | refine below_set ?_ GE630.out | refine below_set ?_ GE643.out | refine below_set ?_ GE654.out) | exact HB.out)) hb)
                  clear BK629
                  clear BK630
                  clear BK643
                  clear BK654
                  clear HB
                  have BK629 := n0_
                  have BK630 := n1_
                  have BK643 := n2_
                  have BK654 := n3_
                  have HB := n4_
                  clear n0_ n1_ n2_ n3_ n4_
                  (try clear hb)
                  (try clear hb2)
                  (try clear hk)
                  (try clear hi)
                  refine hK.out _ _ ⟨(blk_cell BK629.out 0).trans rfl, (blk_cell BK629.out 1).trans rfl, (blk_cell BK629.out 2).trans rfl, (blk_cell BK630.out 0).trans rfl, (blk_cell BK630.out 1).trans rfl, (blk_cell BK630.out 2).trans rfl⟩ (fun hHeld => ?_)
                  clear hK K
                  refine norm_ (a' := ?_) ?_ ?_
                  rotate_left
                  · show Act.put _ (some 37) _ = _
                    simp only [Act.put, List.setIfInBounds_toArray, List.set_cons_zero, List.set_cons_succ, i64_w, i32_w]
                    rfl
                  refine pure_ (i := 6) (N := some 31) (v := ?_) (a' := ?_) #[true, true, true, true, true, true, true, false, false, true, false, false] rfl rfl (any_of HT_.out (by kernel_rfl)) (fun _ _ _ h => h) (Or.inl ⟨by rfl, ?_⟩) ?_ ?_
                  rotate_left
                  · intro w'
                    go_simp
                    with_reducible rfl
                  rotate_left
                  · simp only [Act.put, List.setIfInBounds_toArray, List.set_cons_zero, List.set_cons_succ, i64_w, i32_w]
                    rfl
                  refine pure_ (i := 7) (N := some 38) (v := ?_) (a' := ?_) #[true, true, true, true, true, true, true, true, false, true, false, false] rfl rfl (any_of HT_.out (by kernel_rfl)) (fun _ _ _ h => h) (Or.inl ⟨by rfl, ?_⟩) ?_ ?_
                  rotate_left
                  · intro w'
                    go_simp
                    with_reducible rfl
                  rotate_left
                  · simp only [Act.put, List.setIfInBounds_toArray, List.set_cons_zero, List.set_cons_succ, i64_w, i32_w]
                    rfl
                  refine pure_ (i := 8) (N := some 39) (v := ?_) (a' := ?_) #[true, true, true, true, true, true, true, true, true, true, false, false] rfl rfl (any_of HT_.out (by kernel_rfl)) (fun _ _ _ h => h) (Or.inl ⟨by rfl, ?_⟩) ?_ ?_
                  rotate_left
                  · intro w'
                    go_simp
                    with_reducible rfl
                  rotate_left
                  · simp only [Act.put, List.setIfInBounds_toArray, List.set_cons_zero, List.set_cons_succ, i64_w, i32_w]
                    rfl
                  exact norm_ (by simp only [putAll, Act.put, List.setIfInBounds_toArray, List.set_cons_zero, List.set_cons_succ]) (hCont (gb654) _ ⟨hHeld, (by (with_reducible repeat (first | refine blk_drewN ?_ _ | refine blk_drew ?_ | refine blk_alloc ?_ _)); exact BK629.out), (by (with_reducible repeat (first | refine blk_drewN ?_ _ | refine blk_drew ?_ | refine blk_alloc ?_ _)); exact BK630.out), (by (with_reducible repeat (first | refine blk_drewN ?_ _ | refine blk_drew ?_ | refine blk_alloc ?_ _)); exact BK643.out), (by (with_reducible repeat (first | refine blk_drewN ?_ _ | refine blk_drew ?_ | refine blk_alloc ?_ _)); exact BK654.out), GW654.out, GE654.out, NB629_654.out, NB654_629.out, NB630_654.out, NB654_630.out, NB643_654.out, NB654_643.out, (by repeat (first | (with_reducible first | exact HB.out | apply below_alloc | apply pw_below_drewN | apply below_drew1 | refine below_set ?_ GE629.out | refine below_set ?_ GE630.out | refine below_set ?_ GE643.out | refine below_set ?_ GE654.out) | exact HB.out))⟩)
              · skip
                refine box_step ?hg (N := 10) ?hd (cs := #[.int .i64 0, .int .i64 0, .string (⟨#[]⟩ : ByteArray)]) (t := 34) ?hr ?_; (case hd => rfl); (case hg => rfl); (case hr => first | (go_simp; done) | (go_simp; rfl))
                intro gb654 hg w48 hbox hb
                have n0_ := Aside0.mk (blk_below (g := gb629) (o := .cells #[.int .i64 a1_0, .int .i64 a1_1, .string a1_2] 31 (0, 0)) (by (with_reducible repeat (first | refine blk_drewN ?_ _ | refine blk_drew ?_ | refine blk_alloc ?_ _)); exact BK629.out) hb)
                have n1_ := Aside0.mk (blk_below (g := gb630) (o := .cells #[.int .i64 a2_0, .int .i64 a2_1, .string a2_2] 31 (0, 0)) (by (with_reducible repeat (first | refine blk_drewN ?_ _ | refine blk_drew ?_ | refine blk_alloc ?_ _)); exact BK630.out) hb)
                have n2_ := Aside0.mk (blk_below (g := gb643) (o := .cells #[.int .i64 t639, .int .i64 t640, .string t641] 34 (0, 0)) (by (with_reducible repeat (first | refine blk_drewN ?_ _ | refine blk_drew ?_ | refine blk_alloc ?_ _)); exact BK643.out) hb)
                have n3_ := Aside0.mk (below_step (by repeat (first | (with_reducible first | exact HB.out | apply below_alloc | apply pw_below_drewN | apply below_drew1 | refine below_set ?_ GE629.out | refine below_set ?_ GE630.out | refine below_set ?_ GE643.out) | exact HB.out)) hb)
                have n4_ := Aside0.mk (hbox)
                have n5_ := Aside0.mk ((by rw [hg]; exact (below_size (by repeat (first | (with_reducible first | exact HB.out | apply below_alloc | apply pw_below_drewN | apply below_drew1 | refine below_set ?_ GE629.out | refine below_set ?_ GE630.out | refine below_set ?_ GE643.out) | exact HB.out))) : w.heap.size ≤ gb654))
                have n6_ := Aside0.mk ((by rw [hg]; exact (below_size (by repeat (first | (with_reducible first | exact HB.out | apply below_alloc | apply pw_below_drewN | apply below_drew1 | refine below_set ?_ GE629.out | refine below_set ?_ GE630.out | refine below_set ?_ GE643.out) | exact HB.out))) : w.heap.size ≤ gb654))
                have n7_ := Aside0.mk ((by rw [hg]; exact Nat.ne_of_lt (blk_lt (g := gb629) (o := .cells #[.int .i64 a1_0, .int .i64 a1_1, .string a1_2] 31 (0, 0)) (by (with_reducible repeat (first | refine blk_drewN ?_ _ | refine blk_drew ?_ | refine blk_alloc ?_ _)); exact BK629.out)) : gb629 ≠ gb654))
                have n8_ := Aside0.mk ((by rw [hg]; exact Nat.ne_of_gt (blk_lt (g := gb629) (o := .cells #[.int .i64 a1_0, .int .i64 a1_1, .string a1_2] 31 (0, 0)) (by (with_reducible repeat (first | refine blk_drewN ?_ _ | refine blk_drew ?_ | refine blk_alloc ?_ _)); exact BK629.out)) : gb654 ≠ gb629))
                have n9_ := Aside0.mk ((by rw [hg]; exact Nat.ne_of_lt (blk_lt (g := gb630) (o := .cells #[.int .i64 a2_0, .int .i64 a2_1, .string a2_2] 31 (0, 0)) (by (with_reducible repeat (first | refine blk_drewN ?_ _ | refine blk_drew ?_ | refine blk_alloc ?_ _)); exact BK630.out)) : gb630 ≠ gb654))
                have n10_ := Aside0.mk ((by rw [hg]; exact Nat.ne_of_gt (blk_lt (g := gb630) (o := .cells #[.int .i64 a2_0, .int .i64 a2_1, .string a2_2] 31 (0, 0)) (by (with_reducible repeat (first | refine blk_drewN ?_ _ | refine blk_drew ?_ | refine blk_alloc ?_ _)); exact BK630.out)) : gb654 ≠ gb630))
                have n11_ := Aside0.mk ((by rw [hg]; exact Nat.ne_of_lt (blk_lt (g := gb643) (o := .cells #[.int .i64 t639, .int .i64 t640, .string t641] 34 (0, 0)) (by (with_reducible repeat (first | refine blk_drewN ?_ _ | refine blk_drew ?_ | refine blk_alloc ?_ _)); exact BK643.out)) : gb643 ≠ gb654))
                have n12_ := Aside0.mk ((by rw [hg]; exact Nat.ne_of_gt (blk_lt (g := gb643) (o := .cells #[.int .i64 t639, .int .i64 t640, .string t641] 34 (0, 0)) (by (with_reducible repeat (first | refine blk_drewN ?_ _ | refine blk_drew ?_ | refine blk_alloc ?_ _)); exact BK643.out)) : gb654 ≠ gb643))
                clear BK629
                clear BK630
                clear BK643
                clear HB
                have BK629 := n0_
                have BK630 := n1_
                have BK643 := n2_
                have HB := n3_
                have BK654 := n4_
                have GW654 := n5_
                have GE654 := n6_
                have NB629_654 := n7_
                have NB654_629 := n8_
                have NB630_654 := n9_
                have NB654_630 := n10_
                have NB643_654 := n11_
                have NB654_643 := n12_
                clear n0_ n1_ n2_ n3_ n4_ n5_ n6_ n7_ n8_ n9_ n10_ n11_ n12_
                clear hb hbox hg
                refine hK.out _ _ ⟨(blk_cell BK629.out 0).trans rfl, (blk_cell BK629.out 1).trans rfl, (blk_cell BK629.out 2).trans rfl, (blk_cell BK630.out 0).trans rfl, (blk_cell BK630.out 1).trans rfl, (blk_cell BK630.out 2).trans rfl⟩ (fun hHeld => ?_)
                clear hK K
                refine norm_ (a' := ?_) ?_ ?_
                rotate_left
                · show Act.put _ (some 10) _ = _
                  simp only [Act.put, List.setIfInBounds_toArray, List.set_cons_zero, List.set_cons_succ, i64_w, i32_w]
                  rfl
                refine one_ (i := 4) (N := some 36) #[true, true, true, true, true, false, false, false, false, true, false, false] rfl rfl (one_of HT_.out (by kernel_rfl)) (by decide) (fun K hK => ?_)
                refine goes_ Try.func21 (by kernel_rfl) rfl #[.agg #[.int .i64 a2_0, .int .i64 a2_1, .string a2_2]] (by rfl) rfl rfl (by (try simp only [List.map_toArray, List.map_cons, List.map_nil]); first | done | rfl | (simp only [List.length_drop, List.length_take]; rfl)) ?_
                with_reducible refine (laws_toValue.calls a2_0 a2_1 a2_2 t647 t648 t649 _ A24.out).mono ?_
                rintro e w49 ⟨rfl, hb⟩
                refine ⟨_, rfl, ?_⟩
                have n0_ := Aside0.mk (blk_below (g := gb629) (o := .cells #[.int .i64 a1_0, .int .i64 a1_1, .string a1_2] 31 (0, 0)) (by (with_reducible repeat (first | refine blk_drewN ?_ _ | refine blk_drew ?_ | refine blk_alloc ?_ _)); exact BK629.out) hb)
                have n1_ := Aside0.mk (blk_below (g := gb630) (o := .cells #[.int .i64 a2_0, .int .i64 a2_1, .string a2_2] 31 (0, 0)) (by (with_reducible repeat (first | refine blk_drewN ?_ _ | refine blk_drew ?_ | refine blk_alloc ?_ _)); exact BK630.out) hb)
                have n2_ := Aside0.mk (blk_below (g := gb643) (o := .cells #[.int .i64 t639, .int .i64 t640, .string t641] 34 (0, 0)) (by (with_reducible repeat (first | refine blk_drewN ?_ _ | refine blk_drew ?_ | refine blk_alloc ?_ _)); exact BK643.out) hb)
                have n3_ := Aside0.mk (blk_below (g := gb654) (o := .cells #[.int .i64 0, .int .i64 0, .string (⟨#[]⟩ : ByteArray)] 34 (0, 0)) (by (with_reducible repeat (first | refine blk_drewN ?_ _ | refine blk_drew ?_ | refine blk_alloc ?_ _)); exact BK654.out) hb)
                have n4_ := Aside0.mk (below_step (by repeat (first | (with_reducible first | exact HB.out | apply below_alloc | apply pw_below_drewN | apply below_drew1 | refine below_set ?_ GE629.out | refine below_set ?_ GE630.out | refine below_set ?_ GE643.out | refine below_set ?_ GE654.out) | exact HB.out)) hb)
                clear BK629
                clear BK630
                clear BK643
                clear BK654
                clear HB
                have BK629 := n0_
                have BK630 := n1_
                have BK643 := n2_
                have BK654 := n3_
                have HB := n4_
                clear n0_ n1_ n2_ n3_ n4_
                (try clear hb)
                (try clear hb2)
                (try clear hk)
                (try clear hi)
                refine hK.out _ _ ⟨(blk_cell BK629.out 0).trans rfl, (blk_cell BK629.out 1).trans rfl, (blk_cell BK629.out 2).trans rfl, (blk_cell BK630.out 0).trans rfl, (blk_cell BK630.out 1).trans rfl, (blk_cell BK630.out 2).trans rfl⟩ (fun hHeld => ?_)
                clear hK K
                refine norm_ (a' := ?_) ?_ ?_
                rotate_left
                · show Act.put _ (some 36) _ = _
                  simp only [Act.put, List.setIfInBounds_toArray, List.set_cons_zero, List.set_cons_succ, i64_w, i32_w]
                  rfl
                refine one_ (i := 5) (N := some 37) #[true, true, true, true, true, true, false, false, false, true, false, false] rfl rfl (one_of HT_.out (by kernel_rfl)) (by decide) (fun K hK => ?_)
                refine goes_ Try.func55 (by kernel_rfl) rfl #[.int .i64 a0, .agg #[.int .i64 t644, .int .i64 t645, .string t646], .agg #[.int .i64 t647, .int .i64 t648, .string t649]] (by rfl) rfl rfl (by (try simp only [List.map_toArray, List.map_cons, List.map_nil]); first | done | rfl | (simp only [List.length_drop, List.length_take]; rfl)) ?_
                with_reducible refine (impl_Binary.calls k a0 t644 t645 t646 t647 t648 t649 t650 t651 t652 t653 _ A25.out).mono ?_
                rintro e w50 ⟨rfl, hb⟩
                refine ⟨_, rfl, ?_⟩
                have n0_ := Aside0.mk (blk_below (g := gb629) (o := .cells #[.int .i64 a1_0, .int .i64 a1_1, .string a1_2] 31 (0, 0)) (by (with_reducible repeat (first | refine blk_drewN ?_ _ | refine blk_drew ?_ | refine blk_alloc ?_ _)); exact BK629.out) hb)
                have n1_ := Aside0.mk (blk_below (g := gb630) (o := .cells #[.int .i64 a2_0, .int .i64 a2_1, .string a2_2] 31 (0, 0)) (by (with_reducible repeat (first | refine blk_drewN ?_ _ | refine blk_drew ?_ | refine blk_alloc ?_ _)); exact BK630.out) hb)
                have n2_ := Aside0.mk (blk_below (g := gb643) (o := .cells #[.int .i64 t639, .int .i64 t640, .string t641] 34 (0, 0)) (by (with_reducible repeat (first | refine blk_drewN ?_ _ | refine blk_drew ?_ | refine blk_alloc ?_ _)); exact BK643.out) hb)
                have n3_ := Aside0.mk (blk_below (g := gb654) (o := .cells #[.int .i64 0, .int .i64 0, .string (⟨#[]⟩ : ByteArray)] 34 (0, 0)) (by (with_reducible repeat (first | refine blk_drewN ?_ _ | refine blk_drew ?_ | refine blk_alloc ?_ _)); exact BK654.out) hb)
                have n4_ := Aside0.mk (below_step (by repeat (first | (with_reducible first | exact HB.out | apply below_alloc | apply pw_below_drewN | apply below_drew1 | refine below_set ?_ GE629.out | refine below_set ?_ GE630.out | refine below_set ?_ GE643.out | refine below_set ?_ GE654.out) | exact HB.out)) hb)
                clear BK629
                clear BK630
                clear BK643
                clear BK654
                clear HB
                have BK629 := n0_
                have BK630 := n1_
                have BK643 := n2_
                have BK654 := n3_
                have HB := n4_
                clear n0_ n1_ n2_ n3_ n4_
                (try clear hb)
                (try clear hb2)
                (try clear hk)
                (try clear hi)
                refine hK.out _ _ ⟨(blk_cell BK629.out 0).trans rfl, (blk_cell BK629.out 1).trans rfl, (blk_cell BK629.out 2).trans rfl, (blk_cell BK630.out 0).trans rfl, (blk_cell BK630.out 1).trans rfl, (blk_cell BK630.out 2).trans rfl⟩ (fun hHeld => ?_)
                clear hK K
                refine norm_ (a' := ?_) ?_ ?_
                rotate_left
                · show Act.put _ (some 37) _ = _
                  simp only [Act.put, List.setIfInBounds_toArray, List.set_cons_zero, List.set_cons_succ, i64_w, i32_w]
                  rfl
                refine pure_ (i := 6) (N := some 31) (v := ?_) (a' := ?_) #[true, true, true, true, true, true, true, false, false, true, false, false] rfl rfl (any_of HT_.out (by kernel_rfl)) (fun _ _ _ h => h) (Or.inl ⟨by rfl, ?_⟩) ?_ ?_
                rotate_left
                · intro w'
                  go_simp
                  with_reducible rfl
                rotate_left
                · simp only [Act.put, List.setIfInBounds_toArray, List.set_cons_zero, List.set_cons_succ, i64_w, i32_w]
                  rfl
                refine pure_ (i := 7) (N := some 38) (v := ?_) (a' := ?_) #[true, true, true, true, true, true, true, true, false, true, false, false] rfl rfl (any_of HT_.out (by kernel_rfl)) (fun _ _ _ h => h) (Or.inl ⟨by rfl, ?_⟩) ?_ ?_
                rotate_left
                · intro w'
                  go_simp
                  with_reducible rfl
                rotate_left
                · simp only [Act.put, List.setIfInBounds_toArray, List.set_cons_zero, List.set_cons_succ, i64_w, i32_w]
                  rfl
                refine pure_ (i := 8) (N := some 39) (v := ?_) (a' := ?_) #[true, true, true, true, true, true, true, true, true, true, false, false] rfl rfl (any_of HT_.out (by kernel_rfl)) (fun _ _ _ h => h) (Or.inl ⟨by rfl, ?_⟩) ?_ ?_
                rotate_left
                · intro w'
                  go_simp
                  with_reducible rfl
                rotate_left
                · simp only [Act.put, List.setIfInBounds_toArray, List.set_cons_zero, List.set_cons_succ, i64_w, i32_w]
                  rfl
                exact norm_ (by simp only [putAll, Act.put, List.setIfInBounds_toArray, List.set_cons_zero, List.set_cons_succ]) (hCont (gb654) _ ⟨hHeld, (by (with_reducible repeat (first | refine blk_drewN ?_ _ | refine blk_drew ?_ | refine blk_alloc ?_ _)); exact BK629.out), (by (with_reducible repeat (first | refine blk_drewN ?_ _ | refine blk_drew ?_ | refine blk_alloc ?_ _)); exact BK630.out), (by (with_reducible repeat (first | refine blk_drewN ?_ _ | refine blk_drew ?_ | refine blk_alloc ?_ _)); exact BK643.out), (by (with_reducible repeat (first | refine blk_drewN ?_ _ | refine blk_drew ?_ | refine blk_alloc ?_ _)); exact BK654.out), GW654.out, GE654.out, NB629_654.out, NB654_629.out, NB630_654.out, NB654_630.out, NB643_654.out, NB654_643.out, (by repeat (first | (with_reducible first | exact HB.out | apply below_alloc | apply pw_below_drewN | apply below_drew1 | refine below_set ?_ GE629.out | refine below_set ?_ GE630.out | refine below_set ?_ GE643.out | refine below_set ?_ GE654.out) | exact HB.out))⟩)
            · skip
              refine box_step ?hg (N := 10) ?hd (cs := #[.int .i64 0, .int .i64 0, .string (⟨#[]⟩ : ByteArray)]) (t := 34) ?hr ?_; (case hd => rfl); (case hg => rfl); (case hr => first | (go_simp; done) | (go_simp; rfl))
              intro gb654 hg w47 hbox hb
              have n0_ := Aside0.mk (blk_below (g := gb629) (o := .cells #[.int .i64 a1_0, .int .i64 a1_1, .string a1_2] 31 (0, 0)) (by (with_reducible repeat (first | refine blk_drewN ?_ _ | refine blk_drew ?_ | refine blk_alloc ?_ _)); exact BK629.out) hb)
              have n1_ := Aside0.mk (blk_below (g := gb630) (o := .cells #[.int .i64 a2_0, .int .i64 a2_1, .string a2_2] 31 (0, 0)) (by (with_reducible repeat (first | refine blk_drewN ?_ _ | refine blk_drew ?_ | refine blk_alloc ?_ _)); exact BK630.out) hb)
              have n2_ := Aside0.mk (blk_below (g := gb643) (o := .cells #[.int .i64 t639, .int .i64 t640, .string t641] 34 (0, 0)) (by (with_reducible repeat (first | refine blk_drewN ?_ _ | refine blk_drew ?_ | refine blk_alloc ?_ _)); exact BK643.out) hb)
              have n3_ := Aside0.mk (below_step (by repeat (first | (with_reducible first | exact HB.out | apply below_alloc | apply pw_below_drewN | apply below_drew1 | refine below_set ?_ GE629.out | refine below_set ?_ GE630.out | refine below_set ?_ GE643.out) | exact HB.out)) hb)
              have n4_ := Aside0.mk (hbox)
              have n5_ := Aside0.mk ((by rw [hg]; exact (below_size (by repeat (first | (with_reducible first | exact HB.out | apply below_alloc | apply pw_below_drewN | apply below_drew1 | refine below_set ?_ GE629.out | refine below_set ?_ GE630.out | refine below_set ?_ GE643.out) | exact HB.out))) : w.heap.size ≤ gb654))
              have n6_ := Aside0.mk ((by rw [hg]; exact (below_size (by repeat (first | (with_reducible first | exact HB.out | apply below_alloc | apply pw_below_drewN | apply below_drew1 | refine below_set ?_ GE629.out | refine below_set ?_ GE630.out | refine below_set ?_ GE643.out) | exact HB.out))) : w.heap.size ≤ gb654))
              have n7_ := Aside0.mk ((by rw [hg]; exact Nat.ne_of_lt (blk_lt (g := gb629) (o := .cells #[.int .i64 a1_0, .int .i64 a1_1, .string a1_2] 31 (0, 0)) (by (with_reducible repeat (first | refine blk_drewN ?_ _ | refine blk_drew ?_ | refine blk_alloc ?_ _)); exact BK629.out)) : gb629 ≠ gb654))
              have n8_ := Aside0.mk ((by rw [hg]; exact Nat.ne_of_gt (blk_lt (g := gb629) (o := .cells #[.int .i64 a1_0, .int .i64 a1_1, .string a1_2] 31 (0, 0)) (by (with_reducible repeat (first | refine blk_drewN ?_ _ | refine blk_drew ?_ | refine blk_alloc ?_ _)); exact BK629.out)) : gb654 ≠ gb629))
              have n9_ := Aside0.mk ((by rw [hg]; exact Nat.ne_of_lt (blk_lt (g := gb630) (o := .cells #[.int .i64 a2_0, .int .i64 a2_1, .string a2_2] 31 (0, 0)) (by (with_reducible repeat (first | refine blk_drewN ?_ _ | refine blk_drew ?_ | refine blk_alloc ?_ _)); exact BK630.out)) : gb630 ≠ gb654))
              have n10_ := Aside0.mk ((by rw [hg]; exact Nat.ne_of_gt (blk_lt (g := gb630) (o := .cells #[.int .i64 a2_0, .int .i64 a2_1, .string a2_2] 31 (0, 0)) (by (with_reducible repeat (first | refine blk_drewN ?_ _ | refine blk_drew ?_ | refine blk_alloc ?_ _)); exact BK630.out)) : gb654 ≠ gb630))
              have n11_ := Aside0.mk ((by rw [hg]; exact Nat.ne_of_lt (blk_lt (g := gb643) (o := .cells #[.int .i64 t639, .int .i64 t640, .string t641] 34 (0, 0)) (by (with_reducible repeat (first | refine blk_drewN ?_ _ | refine blk_drew ?_ | refine blk_alloc ?_ _)); exact BK643.out)) : gb643 ≠ gb654))
              have n12_ := Aside0.mk ((by rw [hg]; exact Nat.ne_of_gt (blk_lt (g := gb643) (o := .cells #[.int .i64 t639, .int .i64 t640, .string t641] 34 (0, 0)) (by (with_reducible repeat (first | refine blk_drewN ?_ _ | refine blk_drew ?_ | refine blk_alloc ?_ _)); exact BK643.out)) : gb654 ≠ gb643))
              clear BK629
              clear BK630
              clear BK643
              clear HB
              have BK629 := n0_
              have BK630 := n1_
              have BK643 := n2_
              have HB := n3_
              have BK654 := n4_
              have GW654 := n5_
              have GE654 := n6_
              have NB629_654 := n7_
              have NB654_629 := n8_
              have NB630_654 := n9_
              have NB654_630 := n10_
              have NB643_654 := n11_
              have NB654_643 := n12_
              clear n0_ n1_ n2_ n3_ n4_ n5_ n6_ n7_ n8_ n9_ n10_ n11_ n12_
              clear hb hbox hg
              refine hK.out _ _ ⟨(blk_cell BK629.out 0).trans rfl, (blk_cell BK629.out 1).trans rfl, (blk_cell BK629.out 2).trans rfl, (blk_cell BK630.out 0).trans rfl, (blk_cell BK630.out 1).trans rfl, (blk_cell BK630.out 2).trans rfl⟩ (fun hHeld => ?_)
              clear hK K
              refine norm_ (a' := ?_) ?_ ?_
              rotate_left
              · show Act.put _ (some 10) _ = _
                simp only [Act.put, List.setIfInBounds_toArray, List.set_cons_zero, List.set_cons_succ, i64_w, i32_w]
                rfl
              refine one_ (i := 2) (N := some 34) #[true, true, true, true, false, false, false, false, false, true, false, false] rfl rfl (one_of HT_.out (by kernel_rfl)) (by decide) (fun K hK => ?_)
              refine goes_ Try.func21 (by kernel_rfl) rfl #[.agg #[.int .i64 a1_0, .int .i64 a1_1, .string a1_2]] (by rfl) rfl rfl (by (try simp only [List.map_toArray, List.map_cons, List.map_nil]); first | done | rfl | (simp only [List.length_drop, List.length_take]; rfl)) ?_
              with_reducible refine (laws_toValue.calls a1_0 a1_1 a1_2 t644 t645 t646 _ A23.out).mono ?_
              rintro e w48 ⟨rfl, hb⟩
              refine ⟨_, rfl, ?_⟩
              have n0_ := Aside0.mk (blk_below (g := gb629) (o := .cells #[.int .i64 a1_0, .int .i64 a1_1, .string a1_2] 31 (0, 0)) (by (with_reducible repeat (first | refine blk_drewN ?_ _ | refine blk_drew ?_ | refine blk_alloc ?_ _)); exact BK629.out) hb)
              have n1_ := Aside0.mk (blk_below (g := gb630) (o := .cells #[.int .i64 a2_0, .int .i64 a2_1, .string a2_2] 31 (0, 0)) (by (with_reducible repeat (first | refine blk_drewN ?_ _ | refine blk_drew ?_ | refine blk_alloc ?_ _)); exact BK630.out) hb)
              have n2_ := Aside0.mk (blk_below (g := gb643) (o := .cells #[.int .i64 t639, .int .i64 t640, .string t641] 34 (0, 0)) (by (with_reducible repeat (first | refine blk_drewN ?_ _ | refine blk_drew ?_ | refine blk_alloc ?_ _)); exact BK643.out) hb)
              have n3_ := Aside0.mk (blk_below (g := gb654) (o := .cells #[.int .i64 0, .int .i64 0, .string (⟨#[]⟩ : ByteArray)] 34 (0, 0)) (by (with_reducible repeat (first | refine blk_drewN ?_ _ | refine blk_drew ?_ | refine blk_alloc ?_ _)); exact BK654.out) hb)
              have n4_ := Aside0.mk (below_step (by repeat (first | (with_reducible first | exact HB.out | apply below_alloc | apply pw_below_drewN | apply below_drew1 | refine below_set ?_ GE629.out | refine below_set ?_ GE630.out | refine below_set ?_ GE643.out | refine below_set ?_ GE654.out) | exact HB.out)) hb)
              clear BK629
              clear BK630
              clear BK643
              clear BK654
              clear HB
              have BK629 := n0_
              have BK630 := n1_
              have BK643 := n2_
              have BK654 := n3_
              have HB := n4_
              clear n0_ n1_ n2_ n3_ n4_
              (try clear hb)
              (try clear hb2)
              (try clear hk)
              (try clear hi)
              refine hK.out _ _ ⟨(blk_cell BK629.out 0).trans rfl, (blk_cell BK629.out 1).trans rfl, (blk_cell BK629.out 2).trans rfl, (blk_cell BK630.out 0).trans rfl, (blk_cell BK630.out 1).trans rfl, (blk_cell BK630.out 2).trans rfl⟩ (fun hHeld => ?_)
              clear hK K
              refine norm_ (a' := ?_) ?_ ?_
              rotate_left
              · show Act.put _ (some 34) _ = _
                simp only [Act.put, List.setIfInBounds_toArray, List.set_cons_zero, List.set_cons_succ, i64_w, i32_w]
                rfl
              refine one_ (i := 4) (N := some 36) #[true, true, true, true, true, false, false, false, false, true, false, false] rfl rfl (one_of HT_.out (by kernel_rfl)) (by decide) (fun K hK => ?_)
              refine goes_ Try.func21 (by kernel_rfl) rfl #[.agg #[.int .i64 a2_0, .int .i64 a2_1, .string a2_2]] (by rfl) rfl rfl (by (try simp only [List.map_toArray, List.map_cons, List.map_nil]); first | done | rfl | (simp only [List.length_drop, List.length_take]; rfl)) ?_
              with_reducible refine (laws_toValue.calls a2_0 a2_1 a2_2 t647 t648 t649 _ A24.out).mono ?_
              rintro e w49 ⟨rfl, hb⟩
              refine ⟨_, rfl, ?_⟩
              have n0_ := Aside0.mk (blk_below (g := gb629) (o := .cells #[.int .i64 a1_0, .int .i64 a1_1, .string a1_2] 31 (0, 0)) (by (with_reducible repeat (first | refine blk_drewN ?_ _ | refine blk_drew ?_ | refine blk_alloc ?_ _)); exact BK629.out) hb)
              have n1_ := Aside0.mk (blk_below (g := gb630) (o := .cells #[.int .i64 a2_0, .int .i64 a2_1, .string a2_2] 31 (0, 0)) (by (with_reducible repeat (first | refine blk_drewN ?_ _ | refine blk_drew ?_ | refine blk_alloc ?_ _)); exact BK630.out) hb)
              have n2_ := Aside0.mk (blk_below (g := gb643) (o := .cells #[.int .i64 t639, .int .i64 t640, .string t641] 34 (0, 0)) (by (with_reducible repeat (first | refine blk_drewN ?_ _ | refine blk_drew ?_ | refine blk_alloc ?_ _)); exact BK643.out) hb)
              have n3_ := Aside0.mk (blk_below (g := gb654) (o := .cells #[.int .i64 0, .int .i64 0, .string (⟨#[]⟩ : ByteArray)] 34 (0, 0)) (by (with_reducible repeat (first | refine blk_drewN ?_ _ | refine blk_drew ?_ | refine blk_alloc ?_ _)); exact BK654.out) hb)
              have n4_ := Aside0.mk (below_step (by repeat (first | (with_reducible first | exact HB.out | apply below_alloc | apply pw_below_drewN | apply below_drew1 | refine below_set ?_ GE629.out | refine below_set ?_ GE630.out | refine below_set ?_ GE643.out | refine below_set ?_ GE654.out) | exact HB.out)) hb)
              clear BK629
              clear BK630
              clear BK643
              clear BK654
              clear HB
              have BK629 := n0_
              have BK630 := n1_
              have BK643 := n2_
              have BK654 := n3_
              have HB := n4_
              clear n0_ n1_ n2_ n3_ n4_
              (try clear hb)
              (try clear hb2)
              (try clear hk)
              (try clear hi)
              refine hK.out _ _ ⟨(blk_cell BK629.out 0).trans rfl, (blk_cell BK629.out 1).trans rfl, (blk_cell BK629.out 2).trans rfl, (blk_cell BK630.out 0).trans rfl, (blk_cell BK630.out 1).trans rfl, (blk_cell BK630.out 2).trans rfl⟩ (fun hHeld => ?_)
              clear hK K
              refine norm_ (a' := ?_) ?_ ?_
              rotate_left
              · show Act.put _ (some 36) _ = _
                simp only [Act.put, List.setIfInBounds_toArray, List.set_cons_zero, List.set_cons_succ, i64_w, i32_w]
                rfl
              refine one_ (i := 5) (N := some 37) #[true, true, true, true, true, true, false, false, false, true, false, false] rfl rfl (one_of HT_.out (by kernel_rfl)) (by decide) (fun K hK => ?_)
              refine goes_ Try.func55 (by kernel_rfl) rfl #[.int .i64 a0, .agg #[.int .i64 t644, .int .i64 t645, .string t646], .agg #[.int .i64 t647, .int .i64 t648, .string t649]] (by rfl) rfl rfl (by (try simp only [List.map_toArray, List.map_cons, List.map_nil]); first | done | rfl | (simp only [List.length_drop, List.length_take]; rfl)) ?_
              with_reducible refine (impl_Binary.calls k a0 t644 t645 t646 t647 t648 t649 t650 t651 t652 t653 _ A25.out).mono ?_
              rintro e w50 ⟨rfl, hb⟩
              refine ⟨_, rfl, ?_⟩
              have n0_ := Aside0.mk (blk_below (g := gb629) (o := .cells #[.int .i64 a1_0, .int .i64 a1_1, .string a1_2] 31 (0, 0)) (by (with_reducible repeat (first | refine blk_drewN ?_ _ | refine blk_drew ?_ | refine blk_alloc ?_ _)); exact BK629.out) hb)
              have n1_ := Aside0.mk (blk_below (g := gb630) (o := .cells #[.int .i64 a2_0, .int .i64 a2_1, .string a2_2] 31 (0, 0)) (by (with_reducible repeat (first | refine blk_drewN ?_ _ | refine blk_drew ?_ | refine blk_alloc ?_ _)); exact BK630.out) hb)
              have n2_ := Aside0.mk (blk_below (g := gb643) (o := .cells #[.int .i64 t639, .int .i64 t640, .string t641] 34 (0, 0)) (by (with_reducible repeat (first | refine blk_drewN ?_ _ | refine blk_drew ?_ | refine blk_alloc ?_ _)); exact BK643.out) hb)
              have n3_ := Aside0.mk (blk_below (g := gb654) (o := .cells #[.int .i64 0, .int .i64 0, .string (⟨#[]⟩ : ByteArray)] 34 (0, 0)) (by (with_reducible repeat (first | refine blk_drewN ?_ _ | refine blk_drew ?_ | refine blk_alloc ?_ _)); exact BK654.out) hb)
              have n4_ := Aside0.mk (below_step (by repeat (first | (with_reducible first | exact HB.out | apply below_alloc | apply pw_below_drewN | apply below_drew1 | refine below_set ?_ GE629.out | refine below_set ?_ GE630.out | refine below_set ?_ GE643.out | refine below_set ?_ GE654.out) | exact HB.out)) hb)
              clear BK629
              clear BK630
              clear BK643
              clear BK654
              clear HB
              have BK629 := n0_
              have BK630 := n1_
              have BK643 := n2_
              have BK654 := n3_
              have HB := n4_
              clear n0_ n1_ n2_ n3_ n4_
              (try clear hb)
              (try clear hb2)
              (try clear hk)
              (try clear hi)
              refine hK.out _ _ ⟨(blk_cell BK629.out 0).trans rfl, (blk_cell BK629.out 1).trans rfl, (blk_cell BK629.out 2).trans rfl, (blk_cell BK630.out 0).trans rfl, (blk_cell BK630.out 1).trans rfl, (blk_cell BK630.out 2).trans rfl⟩ (fun hHeld => ?_)
              clear hK K
              refine norm_ (a' := ?_) ?_ ?_
              rotate_left
              · show Act.put _ (some 37) _ = _
                simp only [Act.put, List.setIfInBounds_toArray, List.set_cons_zero, List.set_cons_succ, i64_w, i32_w]
                rfl
              refine pure_ (i := 6) (N := some 31) (v := ?_) (a' := ?_) #[true, true, true, true, true, true, true, false, false, true, false, false] rfl rfl (any_of HT_.out (by kernel_rfl)) (fun _ _ _ h => h) (Or.inl ⟨by rfl, ?_⟩) ?_ ?_
              rotate_left
              · intro w'
                go_simp
                with_reducible rfl
              rotate_left
              · simp only [Act.put, List.setIfInBounds_toArray, List.set_cons_zero, List.set_cons_succ, i64_w, i32_w]
                rfl
              refine pure_ (i := 7) (N := some 38) (v := ?_) (a' := ?_) #[true, true, true, true, true, true, true, true, false, true, false, false] rfl rfl (any_of HT_.out (by kernel_rfl)) (fun _ _ _ h => h) (Or.inl ⟨by rfl, ?_⟩) ?_ ?_
              rotate_left
              · intro w'
                go_simp
                with_reducible rfl
              rotate_left
              · simp only [Act.put, List.setIfInBounds_toArray, List.set_cons_zero, List.set_cons_succ, i64_w, i32_w]
                rfl
              refine pure_ (i := 8) (N := some 39) (v := ?_) (a' := ?_) #[true, true, true, true, true, true, true, true, true, true, false, false] rfl rfl (any_of HT_.out (by kernel_rfl)) (fun _ _ _ h => h) (Or.inl ⟨by rfl, ?_⟩) ?_ ?_
              rotate_left
              · intro w'
                go_simp
                with_reducible rfl
              rotate_left
              · simp only [Act.put, List.setIfInBounds_toArray, List.set_cons_zero, List.set_cons_succ, i64_w, i32_w]
                rfl
              exact norm_ (by simp only [putAll, Act.put, List.setIfInBounds_toArray, List.set_cons_zero, List.set_cons_succ]) (hCont (gb654) _ ⟨hHeld, (by (with_reducible repeat (first | refine blk_drewN ?_ _ | refine blk_drew ?_ | refine blk_alloc ?_ _)); exact BK629.out), (by (with_reducible repeat (first | refine blk_drewN ?_ _ | refine blk_drew ?_ | refine blk_alloc ?_ _)); exact BK630.out), (by (with_reducible repeat (first | refine blk_drewN ?_ _ | refine blk_drew ?_ | refine blk_alloc ?_ _)); exact BK643.out), (by (with_reducible repeat (first | refine blk_drewN ?_ _ | refine blk_drew ?_ | refine blk_alloc ?_ _)); exact BK654.out), GW654.out, GE654.out, NB629_654.out, NB654_629.out, NB630_654.out, NB654_630.out, NB643_654.out, NB654_643.out, (by repeat (first | (with_reducible first | exact HB.out | apply below_alloc | apply pw_below_drewN | apply below_drew1 | refine below_set ?_ GE629.out | refine below_set ?_ GE630.out | refine below_set ?_ GE643.out | refine below_set ?_ GE654.out) | exact HB.out))⟩)
          rintro gb654 w51 ⟨hS_, h0_, h1_, h2_, h3_, h4_, h5_, h6_, h7_, h8_, h9_, h10_, h11_, h12_⟩
          have n0_ : Aside0 (w51.heap[gb629]? = some (.cells #[.int .i64 a1_0, .int .i64 a1_1, .string a1_2] 31 (0, 0))) := ⟨h0_⟩
          have n1_ : Aside0 (w51.heap[gb630]? = some (.cells #[.int .i64 a2_0, .int .i64 a2_1, .string a2_2] 31 (0, 0))) := ⟨h1_⟩
          have n2_ : Aside0 (w51.heap[gb643]? = some (.cells #[.int .i64 t639, .int .i64 t640, .string t641] 34 (0, 0))) := ⟨h2_⟩
          have n3_ : Aside0 (w51.heap[gb654]? = some (.cells #[.int .i64 0, .int .i64 0, .string (⟨#[]⟩ : ByteArray)] 34 (0, 0))) := ⟨h3_⟩
          have n4_ : Aside0 (w.heap.size ≤ gb654) := ⟨h4_⟩
          have n5_ : Aside0 (w.heap.size ≤ gb654) := ⟨h5_⟩
          have n6_ : Aside0 (gb629 ≠ gb654) := ⟨h6_⟩
          have n7_ : Aside0 (gb654 ≠ gb629) := ⟨h7_⟩
          have n8_ : Aside0 (gb630 ≠ gb654) := ⟨h8_⟩
          have n9_ : Aside0 (gb654 ≠ gb630) := ⟨h9_⟩
          have n10_ : Aside0 (gb643 ≠ gb654) := ⟨h10_⟩
          have n11_ : Aside0 (gb654 ≠ gb643) := ⟨h11_⟩
          have n12_ : Aside0 (Below w.heap.size w w51) := ⟨h12_⟩
          clear BK629
          clear BK630
          clear BK643
          clear HB
          clear h0_ h1_ h2_ h3_ h4_ h5_ h6_ h7_ h8_ h9_ h10_ h11_ h12_
          have BK629 := n0_
          have BK630 := n1_
          have BK643 := n2_
          have BK654 := n3_
          have GW654 := n4_
          have GE654 := n5_
          have NB629_654 := n6_
          have NB654_629 := n7_
          have NB630_654 := n8_
          have NB654_630 := n9_
          have NB643_654 := n10_
          have NB654_643 := n11_
          have HB := n12_
          clear n0_ n1_ n2_ n3_ n4_ n5_ n6_ n7_ n8_ n9_ n10_ n11_ n12_
          have hHeld : w51.cell? ⟨gb629, 0, none⟩ = some (.int .i64 a1_0) ∧ w51.cell? ⟨gb629, 1, none⟩ = some (.int .i64 a1_1) ∧ w51.cell? ⟨gb629, 2, none⟩ = some (.string a1_2) ∧ w51.cell? ⟨gb630, 0, none⟩ = some (.int .i64 a2_0) ∧ w51.cell? ⟨gb630, 1, none⟩ = some (.int .i64 a2_1) ∧ w51.cell? ⟨gb630, 2, none⟩ = some (.string a2_2) := hS_
          refine norm_ (a' := ?_) ?_ ?_
          rotate_left
          · simp only [putAll, Act.put, List.setIfInBounds_toArray, List.set_cons_zero, List.set_cons_succ]
            rfl
          refine one_ (i := 10) (N := none) #[true, true, true, true, true, true, true, true, true, true, true, false] rfl rfl (one_of HT_.out (by kernel_rfl)) (by decide) (fun K hK => ?_)
          have hs52 : w51.cell? ⟨gb654, 0, none⟩ = some (.int .i64 0) := (blk_cell BK654.out 0).trans rfl
          have hfs52 := blk_frozen BK654.out 0
          have hns52_0 := NB629_654.out
          have hns52_1 := NB630_654.out
          have hns52_2 := NB643_654.out
          have hms52_0 := NB654_629.out
          have hms52_1 := NB654_630.out
          have hms52_2 := NB654_643.out
          have hs53 : w51.cell? ⟨gb654, 1, none⟩ = some (.int .i64 0) := (blk_cell BK654.out 1).trans rfl
          have hfs53 := blk_frozen BK654.out 1
          have hns53_0 := NB629_654.out
          have hns53_1 := NB630_654.out
          have hns53_2 := NB643_654.out
          have hms53_0 := NB654_629.out
          have hms53_1 := NB654_630.out
          have hms53_2 := NB654_643.out
          have hs54 : w51.cell? ⟨gb654, 2, none⟩ = some (.string (⟨#[]⟩ : ByteArray)) := (blk_cell BK654.out 2).trans rfl
          have hfs54 := blk_frozen BK654.out 2
          have hns54_0 := NB629_654.out
          have hns54_1 := NB630_654.out
          have hns54_2 := NB643_654.out
          have hms54_0 := NB654_629.out
          have hms54_1 := NB654_630.out
          have hms54_2 := NB654_643.out
          refine skip_ (w1 := ?_) (by rfl) rfl ?_ ?_
          rotate_left
          · go_simp
            rfl
          refine hK.out _ _ ⟨((cell_far (p := ⟨gb654, _, none⟩) NB629_654.out _).trans (((cell_far (p := ⟨gb654, _, none⟩) NB629_654.out _).trans (((cell_far (p := ⟨gb654, _, none⟩) NB629_654.out _).trans (hHeld.1)))))), ((cell_far (p := ⟨gb654, _, none⟩) NB629_654.out _).trans (((cell_far (p := ⟨gb654, _, none⟩) NB629_654.out _).trans (((cell_far (p := ⟨gb654, _, none⟩) NB629_654.out _).trans (hHeld.2.1)))))), ((cell_far (p := ⟨gb654, _, none⟩) NB629_654.out _).trans (((cell_far (p := ⟨gb654, _, none⟩) NB629_654.out _).trans (((cell_far (p := ⟨gb654, _, none⟩) NB629_654.out _).trans (hHeld.2.2.1)))))), ((cell_far (p := ⟨gb654, _, none⟩) NB630_654.out _).trans (((cell_far (p := ⟨gb654, _, none⟩) NB630_654.out _).trans (((cell_far (p := ⟨gb654, _, none⟩) NB630_654.out _).trans (hHeld.2.2.2.1)))))), ((cell_far (p := ⟨gb654, _, none⟩) NB630_654.out _).trans (((cell_far (p := ⟨gb654, _, none⟩) NB630_654.out _).trans (((cell_far (p := ⟨gb654, _, none⟩) NB630_654.out _).trans (hHeld.2.2.2.2.1)))))), ((cell_far (p := ⟨gb654, _, none⟩) NB630_654.out _).trans (((cell_far (p := ⟨gb654, _, none⟩) NB630_654.out _).trans (((cell_far (p := ⟨gb654, _, none⟩) NB630_654.out _).trans (hHeld.2.2.2.2.2))))))⟩ (fun hHeld => ?_)
          clear hK K
          refine pure_ (i := 11) (N := some 11) (v := ?_) (a' := ?_) #[true, true, true, true, true, true, true, true, true, true, true, true] rfl rfl (any_of HT_.out (by kernel_rfl)) (fun _ _ _ h => h) (Or.inl ⟨by rfl, ?_⟩) ?_ ?_
          rotate_left
          · intro w'
            go_simp
            with_reducible rfl
          rotate_left
          · simp only [Act.put, List.setIfInBounds_toArray, List.set_cons_zero, List.set_cons_succ, i64_w, i32_w]
            rfl
          refine done_ (done_of HT_.out (by kernel_rfl)) ?_
          have hnb55 := NB654_629.out
          have hnc55 := NB629_654.out
          have hnb56 := NB654_630.out
          have hnc56 := NB630_654.out
          have hnb57 := NB654_643.out
          have hnc57 := NB643_654.out
          have hcz58_0 : w51.cell? ⟨gb654, 0, none⟩ = some (.int .i64 0) := (blk_cell BK654.out 0).trans rfl
          have hcz58_1 : w51.cell? ⟨gb654, 1, none⟩ = some (.int .i64 0) := (blk_cell BK654.out 1).trans rfl
          have hcz58_2 : w51.cell? ⟨gb654, 2, none⟩ = some (.string (⟨#[]⟩ : ByteArray)) := (blk_cell BK654.out 2).trans rfl
          have hfz58_0 := blk_frozen BK654.out 0
          have hfz58_1 := blk_frozen BK654.out 1
          have hfz58_2 := blk_frozen BK654.out 2
          have hnb59 := NB643_629.out
          have hnc59 := NB629_643.out
          have hnb60 := NB643_630.out
          have hnc60 := NB630_643.out
          have hcz61_0 : w51.cell? ⟨gb643, 0, none⟩ = some (.int .i64 t639) := (blk_cell BK643.out 0).trans rfl
          have hcz61_1 : w51.cell? ⟨gb643, 1, none⟩ = some (.int .i64 t640) := (blk_cell BK643.out 1).trans rfl
          have hcz61_2 : w51.cell? ⟨gb643, 2, none⟩ = some (.string t641) := (blk_cell BK643.out 2).trans rfl
          have hfz61_0 := blk_frozen BK643.out 0
          have hfz61_1 := blk_frozen BK643.out 1
          have hfz61_2 := blk_frozen BK643.out 2
          try go_wp2_with (first | ((with_reducible refine gate_callee (f := 30) rfl ?_); refine goesL_ (some 42) rfl rfl Try.func30 (by kernel_rfl) rfl #[.agg #[.int .i64 t650, .int .i64 t651, .string t652], .agg #[.int .i64 t639, .int .i64 t640, .string t641]] rfl (by (try simp only [List.map_toArray, List.map_cons, List.map_nil]); first | done | rfl | (simp only [List.length_drop, List.length_take]; rfl)) ?_; (with_reducible refine (laws_eqValue.calls t650 t651 t652 t639 t640 t641 true _ A26.out).mono ?_); rintro e w62 ⟨rfl, hb⟩; refine ⟨_, rfl, ?_⟩; have n0_ := Aside0.mk (blk_below (g := gb629) (o := .cells #[.int .i64 a1_0, .int .i64 a1_1, .string a1_2] 31 (0, 0)) (by (with_reducible repeat (first | refine blk_drewN ?_ _ | refine blk_drew ?_ | refine blk_alloc ?_ _)); refine blk_far ?_ NB629_654.out _; (with_reducible repeat (first | refine blk_drewN ?_ _ | refine blk_drew ?_ | refine blk_alloc ?_ _)); refine blk_far ?_ NB629_654.out _; (with_reducible repeat (first | refine blk_drewN ?_ _ | refine blk_drew ?_ | refine blk_alloc ?_ _)); refine blk_far ?_ NB629_654.out _; (with_reducible repeat (first | refine blk_drewN ?_ _ | refine blk_drew ?_ | refine blk_alloc ?_ _)); exact BK629.out) hb); have n1_ := Aside0.mk (blk_below (g := gb630) (o := .cells #[.int .i64 a2_0, .int .i64 a2_1, .string a2_2] 31 (0, 0)) (by (with_reducible repeat (first | refine blk_drewN ?_ _ | refine blk_drew ?_ | refine blk_alloc ?_ _)); refine blk_far ?_ NB630_654.out _; (with_reducible repeat (first | refine blk_drewN ?_ _ | refine blk_drew ?_ | refine blk_alloc ?_ _)); refine blk_far ?_ NB630_654.out _; (with_reducible repeat (first | refine blk_drewN ?_ _ | refine blk_drew ?_ | refine blk_alloc ?_ _)); refine blk_far ?_ NB630_654.out _; (with_reducible repeat (first | refine blk_drewN ?_ _ | refine blk_drew ?_ | refine blk_alloc ?_ _)); exact BK630.out) hb); have n2_ := Aside0.mk (blk_below (g := gb643) (o := .cells #[.int .i64 t639, .int .i64 t640, .string t641] 34 (0, 0)) (by (with_reducible repeat (first | refine blk_drewN ?_ _ | refine blk_drew ?_ | refine blk_alloc ?_ _)); refine blk_far ?_ NB643_654.out _; (with_reducible repeat (first | refine blk_drewN ?_ _ | refine blk_drew ?_ | refine blk_alloc ?_ _)); refine blk_far ?_ NB643_654.out _; (with_reducible repeat (first | refine blk_drewN ?_ _ | refine blk_drew ?_ | refine blk_alloc ?_ _)); refine blk_far ?_ NB643_654.out _; (with_reducible repeat (first | refine blk_drewN ?_ _ | refine blk_drew ?_ | refine blk_alloc ?_ _)); exact BK643.out) hb); have n3_ := Aside0.mk (blk_below (g := gb654) (o := .cells #[.int .i64 t650, .int .i64 t651, .string t652] 34 (0, 0)) (by (with_reducible repeat (first | refine blk_drewN ?_ _ | refine blk_drew ?_ | refine blk_alloc ?_ _)); refine blk_put (cs := #[.int .i64 t650, .int .i64 t651, .string (⟨#[]⟩ : ByteArray)]) ?_ 2 _ rfl; (with_reducible repeat (first | refine blk_drewN ?_ _ | refine blk_drew ?_ | refine blk_alloc ?_ _)); refine blk_put (cs := #[.int .i64 t650, .int .i64 0, .string (⟨#[]⟩ : ByteArray)]) ?_ 1 _ rfl; (with_reducible repeat (first | refine blk_drewN ?_ _ | refine blk_drew ?_ | refine blk_alloc ?_ _)); refine blk_put (cs := #[.int .i64 0, .int .i64 0, .string (⟨#[]⟩ : ByteArray)]) ?_ 0 _ rfl; (with_reducible repeat (first | refine blk_drewN ?_ _ | refine blk_drew ?_ | refine blk_alloc ?_ _)); exact BK654.out) hb); have n4_ := Aside0.mk (below_step (by repeat (first | (with_reducible first | exact HB.out | apply below_alloc | apply pw_below_drewN | apply below_drew1 | refine below_set ?_ GE629.out | refine below_set ?_ GE630.out | refine below_set ?_ GE643.out | refine below_set ?_ GE654.out) | exact HB.out)) hb); clear BK629; clear BK630; clear BK643; clear BK654; clear HB; have BK629 := n0_; have BK630 := n1_; have BK643 := n2_; have BK654 := n3_; have HB := n4_; clear n0_ n1_ n2_ n3_ n4_; (try clear hb); (try clear hb2); (try clear hk); (try clear hi)))
          go_ret
          exact ⟨by first | rfl | (simp [errW_none, errW_some] <;> rfl) | (simp [*, errW_none, errW_some] <;> rfl), by repeat (first | (with_reducible first | exact HB.out | apply below_alloc | apply pw_below_drewN | apply below_drew1 | refine below_set ?_ GE629.out | refine below_set ?_ GE630.out | refine below_set ?_ GE643.out | refine below_set ?_ GE654.out) | exact HB.out)⟩
        · rw [if_neg c28] at H
          have c28b0 : (t653.toList == t642.toList) = false := beq_eq_false_iff_ne.mpr c28
          have c28b1 : (t653.toList != t642.toList) = true := bne_iff_ne.mpr c28
          obtain rfl := Option.some.inj H
          exact absurd hrt (by decide)
      · replace c27 := Bool.eq_false_iff.mpr c27
        subst c27
        have H1 : (some false) = some r := by rw [if_neg (show ¬ (false = true) by decide)] at H; exact H
        clear H
        have H := H1
        clear H1
        obtain rfl := Option.some.inj H
        exact absurd hrt (by decide)

end Go.Proofs.Ytajlomhnednghaa.R
/- Plain lemmas: an argument that can be read as data has a kind (Kd) of the print's words: whole numbers, bools, strings, slices, structs. No conditions. -/
namespace Go.Proofs.Ytajlomhnednghaa.Open
open Go.RowKit Go.Proofs.YtajlomhnednghaaW.PrintWords Go.ChangeShapes Go.WideShapes Go.Deep
set_option linter.unusedVariables false

/-- What reads as a datum of type t has the kind d and is good. -/
def Opens {α : Type} (P : Program) (t : TypeId) (d : Kd α) (G : α → Prop) : Prop :=
  ∀ (H : Type) (enc : TypeId × Value → H) (w : World) (base : Nat) (spare : Nat → Bool) (held : Bool) (fuel : Nat) (cs : List Value) (x : DataW H × List MemPlace),
    DataW.trod enc P w base spare held fuel t cs = some x → ∃ a, G a ∧ d.K w a cs

theorem opens_int {P : Program} {t : TypeId} {k : IntKind} (ht : P.underlying t = some (.int k)) : Opens P t (Kd.int k) (fun n => (Lit.int k n).wf = true) := by
  intro H enc w base spare held fuel cs x h
  obtain ⟨n, rfl, _, hw⟩ := DataW.trod_int ht h
  exact ⟨n, hw, rfl⟩
theorem opens_bool {P : Program} {t : TypeId} (ht : P.underlying t = some .bool) : Opens P t Kd.bool (fun _ => True) := by
  intro H enc w base spare held fuel cs x h
  obtain ⟨n, rfl, _⟩ := DataW.trod_bool ht h
  exact ⟨n, trivial, rfl⟩
theorem opens_string {P : Program} {t : TypeId} (ht : P.underlying t = some .string) : Opens P t Kd.string (fun s => s.size ≤ maxLen) := by
  intro H enc w base spare held fuel cs x h
  cases fuel with
  | zero => simp [DataW.trod] at h
  | succ n =>
    unfold DataW.trod at h
    rw [ht] at h
    split at h <;> simp_all
    obtain ⟨h, _⟩ := h
    exact ⟨_, h, rfl⟩

theorem opens_slice {α : Type} {P : Program} {t e : TypeId} {d : Kd α} {G : α → Prop} (E : Nat) (ht : P.underlying t = some (.slice e)) (hC : P.cellsOf e = d.sz) (he : Opens P e d G) :
    Opens P t (Kd.slice E d) (fun xs => xs.length ≤ maxLen ∧ ∀ x ∈ xs, G x) := by
  intro H enc w base spare held fuel cs x h
  rcases open_slice ht h with ⟨rfl, _⟩ | ⟨a, len, cap, m, n, D, Pl, rfl, hb, hl, hm, hmm, _, hi⟩
  · exact ⟨[], ⟨by simp, fun x hx => by simp at hx⟩, none, 0, rfl, by simp, by simp, by simp, fun h => by simp at h⟩
  · have hlm : len ≤ m := by rw [hmm]; split <;> omega
    have key : ∀ k, k ≤ len → ∃ xs : List α, xs.length = k ∧ (∀ x ∈ xs, G x) ∧ ∀ j p, xs[j]? = some p → ∃ c, c.length = d.sz ∧ d.K w p c ∧ ∀ i u, c[i]? = some u → w.cell? (a.add (j * d.sz + i)) = some u := by
      intro k
      induction k with
      | zero => exact fun _ => ⟨[], rfl, fun x hx => by simp at hx, fun j p hj => by simp at hj⟩
      | succ k ih =>
        intro hk
        obtain ⟨xs, h1, h2, h3⟩ := ih (by omega)
        obtain ⟨cs', hc, htr⟩ := hi k (by omega)
        obtain ⟨y, hg, hK⟩ := he _ _ _ _ _ _ _ _ _ htr
        obtain ⟨_, hcl, hat⟩ := World.cells?_some hc
        refine ⟨xs ++ [y], by simp [h1], ?_, ?_⟩
        · intro x hx
          rcases List.mem_append.1 hx with hx | hx
          · exact h2 x hx
          · rw [List.mem_singleton.1 hx]; exact hg
        · intro j p hj
          rcases Nat.lt_or_ge j xs.length with hjl | hjl
          · rw [List.getElem?_append_left hjl] at hj
            exact h3 j p hj
          · rw [List.getElem?_append_right hjl] at hj
            have hj0 : j - xs.length = 0 := by
              rcases Nat.eq_zero_or_pos (j - xs.length) with h0 | h0
              · exact h0
              · rw [List.getElem?_eq_none (by simp; omega)] at hj; cases hj
            rw [hj0] at hj
            simp only [List.getElem?_cons_zero, Option.some.injEq] at hj
            subst hj
            obtain rfl : j = k := by omega
            rw [hC] at hcl hat
            refine ⟨cs', hcl, hK, fun i u hu => ?_⟩
            have hil : i < d.sz := by
              rw [← hcl]; exact (List.getElem?_eq_some_iff.1 hu).1
            rw [← Go.Deep.add_add, hat i hil, hu]
    obtain ⟨xs, h1, h2, h3⟩ := key len (Nat.le_refl _)
    refine ⟨xs, ⟨by omega, h2⟩, some a, cap, by rw [h1], by omega, rfl, by unfold maxLen at hm; omega, fun _ => ⟨a, rfl, h3⟩⟩

/-- The fields of a struct from the cell `off` on. -/
def OpensFields {α : Type} (P : Program) (fs : List Field) (off : Nat) (d : Kd α) (G : α → Prop) : Prop :=
  ∀ (H : Type) (enc : TypeId × Value → H) (w : World) (base : Nat) (spare : Nat → Bool) (held : Bool) (n : Nat) (cs : List Value), cs.length = off + d.sz →
    (∀ (j : Nat) (f : Field), fs[j]? = some f → ∃ y, DataW.trod enc P w base spare held n f.type ((cs.drop f.offset).take (P.cellsOf f.type)) = some y) → ∃ a, G a ∧ d.K w a (cs.drop off)

theorem fields_one {α : Type} {P : Program} {f : Field} {off : Nat} (ty : TypeId) {d : Kd α} {G : α → Prop} (ht : f.type = ty) (ho : f.offset = off) (hC : P.cellsOf ty = d.sz) (h : Opens P ty d G) : OpensFields P [f] off d G := by
  subst ht
  intro H enc w base spare held n cs hl hf
  obtain ⟨y, hy⟩ := hf 0 f rfl
  obtain ⟨a, hg, hK⟩ := h _ _ _ _ _ _ _ _ _ hy
  rw [ho, hC, List.take_of_length_le (by simp; omega)] at hK
  exact ⟨a, hg, hK⟩
theorem fields_cons {α β : Type} {P : Program} {f : Field} {fs : List Field} {off off' : Nat} (ty : TypeId) {d : Kd α} {d' : Kd β} {G : α → Prop} {G' : β → Prop} (ht : f.type = ty) (ho : f.offset = off) (hC : P.cellsOf ty = d.sz) (ho' : off' = off + d.sz)
    (h : Opens P ty d G) (h' : OpensFields P fs off' d' G') : OpensFields P (f :: fs) off (Kd.pair d d') (fun x => G x.1 ∧ G' x.2) := by
  subst ht
  intro H enc w base spare held n cs hl hf
  obtain ⟨y, hy⟩ := hf 0 f rfl
  obtain ⟨a, hg, hK⟩ := h _ _ _ _ _ _ _ _ _ hy
  have hl2 : cs.length = off + (d.sz + d'.sz) := hl
  obtain ⟨b, hg', hK'⟩ := h' H enc w base spare held n cs (by omega) (fun j g hj => hf (j + 1) g (by simpa using hj))
  rw [ho, hC] at hK
  refine ⟨(a, b), ⟨hg, hg'⟩, _, _, ?_, hK, hK'⟩
  rw [ho', ← List.drop_drop, List.take_append_drop]
theorem opens_struct {α : Type} {P : Program} {t : TypeId} {fl : List Field} {d : Kd α} {G : α → Prop} (ht : P.underlying t = some (.struct fl.toArray)) (hC : P.cellsOf t = d.sz) (h : OpensFields P fl 0 d G) : Opens P t d G := by
  intro H enc w base spare held fuel cs x hx
  obtain ⟨ys, n, _, hy, hlen, hyl, hf⟩ := DataW.trod_struct ht hx
  have := h H enc w base spare held n cs (by omega) (fun j f hj => by
    have hj' : fl.toArray[j]? = some f := by simpa using hj
    have h1 := hf j f hj'
    have hjl : j < ys.length := by
      rw [hyl]; exact (Array.getElem?_eq_some_iff.1 hj').1
    exact ⟨_, h1.trans (List.getElem?_eq_getElem hjl)⟩)
  simpa using this
theorem opens_iso {α β : Type} {P : Program} {t : TypeId} {d : Kd α} {f : β → α} (g : α → β) {G : α → Prop} (hfg : ∀ a, f (g a) = a) (h : Opens P t d G) : Opens P t (Kd.iso d f) (fun b => G (f b)) := by
  intro H enc w base spare held fuel cs x hx
  obtain ⟨a, hg, hK⟩ := h _ _ _ _ _ _ _ _ _ hx
  refine ⟨g a, by show G (f (g a)); rw [hfg]; exact hg, ?_⟩
  show d.K w (f (g a)) cs
  rw [hfg]; exact hK
/-- A parameter. -/
theorem opens_arg {α : Type} {P : Program} {t : TypeId} {d : Kd α} {G : α → Prop} (h : Opens P t d G) {H : Type} {enc : TypeId × Value → H} {w : World} {base : Nat} {spare : Nat → Bool} {held : Bool} {v : Value} {x : DataW H} {p : List MemPlace}
    (hx : DataW.Trod enc P w base spare held t v x p) : ∃ a, G a ∧ d.K w a v.cells.toList := by
  obtain ⟨fuel, hf⟩ := hx
  exact h _ _ _ _ _ _ _ _ _ hf
end Go.Proofs.Ytajlomhnednghaa.Open
/- Plain arithmetic: bits of an integer type, taken into a type. No conditions. -/
namespace Go.Proofs.Ytajlomhnednghaa.Arith
open Go.RowKit Go.Proofs.YtajlomhnednghaaW.PrintWords Go.Proofs.YtajlomhnednghaaW.PrintLast Go.Proofs.YtajlomhnednghaaW.PrintMore
set_option linter.unusedVariables false

theorem wrap_u64 (n : Int) : IntKind.u64.wrap n = n % 18446744073709551616 := by simp [IntKind.wrap, IntKind.bits, IntKind.signed]
theorem wraps_u64 (n : Int) (h0 : 0 ≤ n) (h1 : n < 2 ^ 64) : IntKind.u64.wrap n = n := by rw [wrap_u64]; omega

def ibits (t : Int) : Int := if t = 3 ∨ t = 7 then 8 else if t = 4 ∨ t = 8 then 16 else if t = 5 ∨ t = 9 then 32 else 64
/-- The lowest bits of x as a number of type t. -/
def into (t x : Int) : Int :=
  if t = 3 then x % 256 else if t = 4 then x % 65536 else if t = 5 then x % 4294967296
  else if t = 7 then (x + 128) % 256 - 128 else if t = 8 then (x + 32768) % 65536 - 32768 else if t = 9 then (x + 2147483648) % 4294967296 - 2147483648 else wrap64 x

theorem mask8 (x : Int) (h0 : 0 ≤ x) (h1 : x < 18446744073709551616) : Go.bits .and .u64 x 255 = x % 256 := bits_mask .u64 64 (by decide) wraps_u64 8 (by decide) x h0 h1
theorem mask16 (x : Int) (h0 : 0 ≤ x) (h1 : x < 18446744073709551616) : Go.bits .and .u64 x 65535 = x % 65536 := bits_mask .u64 64 (by decide) wraps_u64 16 (by decide) x h0 h1
theorem mask32 (x : Int) (h0 : 0 ≤ x) (h1 : x < 18446744073709551616) : Go.bits .and .u64 x 4294967295 = x % 4294967296 := bits_mask .u64 64 (by decide) wraps_u64 32 (by decide) x h0 h1
theorem bits_or_comm (x y : Int) : Go.bits .or .u64 x y = Go.bits .or .u64 y x := by
  simp only [Go.bits, BitVec.or_comm]
theorem join8 (y : Int) (h0 : 0 ≤ y) (h1 : y < 256) : Go.bits .or .u64 y 18446744073709551360 = 18446744073709551360 + y := by
  rw [bits_or_comm]; exact bits_join .u64 64 (by decide) wraps_u64 8 _ y (by decide) (by decide) (by decide) h0 h1 (by omega)
theorem join16 (y : Int) (h0 : 0 ≤ y) (h1 : y < 65536) : Go.bits .or .u64 y 18446744073709486080 = 18446744073709486080 + y := by
  rw [bits_or_comm]; exact bits_join .u64 64 (by decide) wraps_u64 16 _ y (by decide) (by decide) (by decide) h0 h1 (by omega)
theorem join32 (y : Int) (h0 : 0 ≤ y) (h1 : y < 4294967296) : Go.bits .or .u64 y 18446744069414584320 = 18446744069414584320 + y := by
  rw [bits_or_comm]; exact bits_join .u64 64 (by decide) wraps_u64 32 _ y (by decide) (by decide) (by decide) h0 h1 (by omega)
end Go.Proofs.Ytajlomhnednghaa.Arith
/- The program's and the reference's 'into' and 'ValidValue' are the same. No conditions. -/
namespace Go.Proofs.Ytajlomhnednghaa.R
open Go.RowKit Go.Proofs.YtajlomhnednghaaW.PrintWords Go.Proofs.YtajlomhnednghaaW.PrintLast Go.Proofs.YtajlomhnednghaaW.PrintMore Go.Proofs.Ytajlomhnednghaa.Arith
set_option linter.unusedVariables false
set_option linter.unusedSimpArgs false

theorem specBits (k : Nat) (t : Int) : spec_l1Bits.f (k + 2) t = some (ibits t) := by
  unfold spec_l1Bits.f ibits
  by_cases h3 : t = 3 <;> by_cases h7 : t = 7 <;> by_cases h4 : t = 4 <;> by_cases h8 : t = 8 <;> by_cases h5 : t = 5 <;> by_cases h9 : t = 9 <;>
    first | omega | simp [spec_l1Bits.j0, spec_l1Bits.j1, h3, h7, h4, h8, h5, h9]
theorem implBits (k : Nat) (t : Int) : impl_bits.f (k + 2) t = some (ibits t) := by
  unfold impl_bits.f ibits
  by_cases h3 : t = 3 <;> by_cases h7 : t = 7 <;> by_cases h4 : t = 4 <;> by_cases h8 : t = 8 <;> by_cases h5 : t = 5 <;> by_cases h9 : t = 9 <;>
    first | omega | simp [impl_bits.j0, impl_bits.j1, h3, h7, h4, h8, h5, h9]
theorem ibits_cases (t : Int) : ((t = 3 ∨ t = 7) ∧ ibits t = 8) ∨ ((t = 4 ∨ t = 8) ∧ ibits t = 16) ∨ ((t = 5 ∨ t = 9) ∧ ibits t = 32) ∨ ((t ≠ 3 ∧ t ≠ 7 ∧ t ≠ 4 ∧ t ≠ 8 ∧ t ≠ 5 ∧ t ≠ 9) ∧ ibits t = 64) := by
  unfold ibits
  repeat' split
  all_goals omega
theorem sh8 : shl .u64 1 8 = 256 := by decide
theorem sh16 : shl .u64 1 16 = 65536 := by decide
theorem sh32 : shl .u64 1 32 = 4294967296 := by decide
theorem shf8 : shl .u64 18446744073709551615 8 = 18446744073709551360 := by decide
theorem shf16 : shl .u64 18446744073709551615 16 = 18446744073709486080 := by decide
theorem shf32 : shl .u64 18446744073709551615 32 = 18446744069414584320 := by decide
theorem sr7 (x : Int) : shr .u64 x 7 = x / 128 := by unfold shr; rfl
theorem sr15 (x : Int) : shr .u64 x 15 = x / 32768 := by unfold shr; rfl
theorem sr31 (x : Int) : shr .u64 x 31 = x / 2147483648 := by unfold shr; rfl
theorem w8 : IntKind.u64.wrap 8 = 8 := by decide
theorem w16 : IntKind.u64.wrap 16 = 16 := by decide
theorem w32 : IntKind.u64.wrap 32 = 32 := by decide
theorem wm8 : IntKind.u64.wrap (256 - 1) = 255 := by decide
theorem wm16 : IntKind.u64.wrap (65536 - 1) = 65535 := by decide
theorem wm32 : IntKind.u64.wrap (4294967296 - 1) = 4294967295 := by decide
theorem w7 : IntKind.u64.wrap (8 - 1) = 7 := by decide
theorem w15 : IntKind.u64.wrap (16 - 1) = 15 := by decide
theorem w31 : IntKind.u64.wrap (32 - 1) = 31 := by decide
theorem wh8 : IntKind.u64.wrap (256 / 2) = 128 := by decide
theorem wh16 : IntKind.u64.wrap (65536 / 2) = 32768 := by decide
theorem wh32 : IntKind.u64.wrap (4294967296 / 2) = 2147483648 := by decide

theorem specInto (k : Nat) (t x : Int) (h0 : 0 ≤ x) (h1 : x < 18446744073709551616) : spec_l4Into.f (k + 2) t x = some (into t x) := by
  have e8 : Int.tmod x 256 = x % 256 := Int.tmod_eq_emod_of_nonneg h0
  have e16 : Int.tmod x 65536 = x % 65536 := Int.tmod_eq_emod_of_nonneg h0
  have e32 : Int.tmod x 4294967296 = x % 4294967296 := Int.tmod_eq_emod_of_nonneg h0
  unfold spec_l4Into.f
  rw [specBits]
  rcases ibits_cases t with ⟨ht, hb⟩ | ⟨ht, hb⟩ | ⟨ht, hb⟩ | ⟨ht, hb⟩
  · rw [hb]
    rcases ht with rfl | rfl
    · simp [spec_l1Signed.f, into, w8, sh8, e8, wrap64]; omega
    · simp [spec_l1Signed.f, into, w8, sh8, e8, wh8]
      split <;> simp [wrap64, wrap_u64] <;> omega
  · rw [hb]
    rcases ht with rfl | rfl
    · simp [spec_l1Signed.f, into, w16, sh16, e16, wrap64]; omega
    · simp [spec_l1Signed.f, into, w16, sh16, e16, wh16]
      split <;> simp [wrap64, wrap_u64] <;> omega
  · rw [hb]
    rcases ht with rfl | rfl
    · simp [spec_l1Signed.f, into, w32, sh32, e32, wrap64]; omega
    · simp [spec_l1Signed.f, into, w32, sh32, e32, wh32]
      split <;> simp [wrap64, wrap_u64] <;> omega
  · rw [hb]
    obtain ⟨a, b, c, d, e, f⟩ := ht
    simp [into, a, b, c, d, e, f]

theorem implInto (k : Nat) (t x : Int) (h0 : 0 ≤ x) (h1 : x < 18446744073709551616) : impl_into.f (k + 2) x t = some (into t x) := by
  have e8 := mask8 x h0 h1
  have e16 := mask16 x h0 h1
  have e32 := mask32 x h0 h1
  have j8 := join8 (x % 256) (by omega) (by omega)
  have j16 := join16 (x % 65536) (by omega) (by omega)
  have j32 := join32 (x % 4294967296) (by omega) (by omega)
  unfold impl_into.f
  rw [implBits]
  rcases ibits_cases t with ⟨ht, hb⟩ | ⟨ht, hb⟩ | ⟨ht, hb⟩ | ⟨ht, hb⟩
  · rw [hb]
    simp only [Option.bind_some, sh8, wm8, e8, w7, sr7, shf8, j8]
    rcases ht with rfl | rfl
    · simp [impl_signed.f, into, wrap64]; omega
    · simp [impl_signed.f, into, wrap64]
      split <;> simp <;> omega
  · rw [hb]
    simp only [Option.bind_some, sh16, wm16, e16, w15, sr15, shf16, j16]
    rcases ht with rfl | rfl
    · simp [impl_signed.f, into, wrap64]; omega
    · simp [impl_signed.f, into, wrap64]
      split <;> simp <;> omega
  · rw [hb]
    simp only [Option.bind_some, sh32, wm32, e32, w31, sr31, shf32, j32]
    rcases ht with rfl | rfl
    · simp [impl_signed.f, into, wrap64]; omega
    · simp [impl_signed.f, into, wrap64]
      split <;> simp <;> omega
  · rw [hb]
    obtain ⟨a, b, c, d, e, f⟩ := ht
    simp [into, a, b, c, d, e, f]

theorem u64_range (n : Int) : 0 ≤ IntKind.u64.wrap n ∧ IntKind.u64.wrap n < 18446744073709551616 := by rw [wrap_u64]; omega

/-- What both say of a value. -/
def valid (t n : Int) (s : ByteArray) : Bool :=
  if t = 1 then (decide (n = 0) || decide (n = 1)) && (s.toList == ([] : List UInt8))
  else if t = 2 then decide (n = 0) && decide ((s.size : Int) ≤ 3000)
  else decide (3 ≤ t) && decide (t ≤ 10) && (s.toList == ([] : List UInt8)) && (n == into t (IntKind.u64.wrap n))
theorem specValid (k : Nat) (t n : Int) (s : ByteArray) : spec_ValidValue.f (k + 2) t n s = some (valid t n s) := by
  have h := u64_range n
  unfold spec_ValidValue.f valid
  by_cases h1 : t = 1
  · simp only [h1, if_true]
    by_cases a : n = 0 <;> by_cases b : n = 1 <;> simp [a, b]
  · by_cases h2 : t = 2
    · simp only [h2]
      by_cases a : n = 0 <;> simp [a]
    · simp only [h1, h2, if_false, spec_l1Integer.f]
      by_cases a : 3 ≤ t <;> by_cases b : t ≤ 10 <;> by_cases c : s.toList = ([] : List UInt8) <;> simp [a, b, c, specInto k t _ h.1 h.2]
theorem implValid (k : Nat) (t n : Int) (s : ByteArray) : impl_ValidValue.f (k + 2) t n s = some (valid t n s) := by
  have h := u64_range n
  unfold impl_ValidValue.f valid
  by_cases h1 : t = 1
  · simp only [h1, if_true]
    by_cases a : n = 0 <;> by_cases b : n = 1 <;> simp [a, b]
  · by_cases h2 : t = 2
    · simp only [h2]
      by_cases a : n = 0 <;> simp [a]
    · simp only [h1, h2, if_false, impl_integer.f]
      by_cases a : 3 ≤ t <;> by_cases b : t ≤ 10 <;> by_cases c : s.toList = ([] : List UInt8) <;> simp [a, b, c, implInto k t _ h.1 h.2]
      rw [Bool.eq_iff_iff]; simp only [beq_iff_eq]; exact eq_comm
end Go.Proofs.Ytajlomhnednghaa.R
/- Plain laws on marks with two kids: program and reference tell the same. No conditions. -/
namespace Go.Proofs.Ytajlomhnednghaa.R
open Go.RowKit Go.Proofs.YtajlomhnednghaaW.PrintWords Go.Proofs.YtajlomhnednghaaW.PrintLast Go.Proofs.YtajlomhnednghaaW.PrintMore Go.Proofs.Ytajlomhnednghaa.Arith
set_option linter.unusedVariables false
set_option linter.unusedSimpArgs false

/-! ### order of texts -/
theorem cmp_bytes : ∀ (l m : List UInt8), (Lib.compareBytes l m < 0 ↔ Op.bytesLess l m = true) ∧ (Lib.compareBytes l m = 0 ↔ l = m) ∧ (Lib.compareBytes l m > 0 ↔ ¬ Op.bytesLess l m = true ∧ l ≠ m)
  | [], [] => by simp [Lib.compareBytes, Op.bytesLess]
  | [], b :: m => by simp [Lib.compareBytes, Op.bytesLess]
  | a :: l, [] => by simp [Lib.compareBytes, Op.bytesLess]
  | a :: l, b :: m => by
    obtain ⟨h1, h2, h3⟩ := cmp_bytes l m
    unfold Lib.compareBytes Op.bytesLess
    by_cases c : a < b
    · have : a ≠ b := fun e => by subst e; exact absurd c (UInt8.lt_irrefl a)
      simp [c, this]
    · by_cases d : b < a
      · have : a ≠ b := fun e => by subst e; exact absurd d (UInt8.lt_irrefl a)
        simp [c, d, this]
      · have e : a = b := by
          apply UInt8.toNat_inj.1
          have c' := mt UInt8.lt_iff_toNat_lt.2 c
          have d' := mt UInt8.lt_iff_toNat_lt.2 d
          omega
        subst e
        simp only [c, if_false, decide_false, Bool.false_or, beq_self_eq_true, Bool.true_and, List.cons.injEq, true_and]
        refine ⟨h1, h2, ?_⟩
        rw [h3]; simp

theorem valid_into {t n : Int} {s : ByteArray} (h : valid t n s = true) (h1 : t ≠ 1) (h2 : t ≠ 2) : 3 ≤ t ∧ t ≤ 10 ∧ n = into t (IntKind.u64.wrap n) ∧ s.toList = [] := by
  unfold valid at h
  simp only [h1, h2, if_false, Bool.and_eq_true, decide_eq_true_eq, beq_iff_eq] at h
  exact ⟨h.1.1.1, h.1.1.2, h.2, h.1.2⟩
theorem into_zero (t : Int) : into t 0 = 0 := by
  unfold into wrap64
  repeat' split
  all_goals omega
theorem type_cases {t : Int} (h3 : 3 ≤ t) (h10 : t ≤ 10) : t = 3 ∨ t = 4 ∨ t = 5 ∨ t = 6 ∨ t = 7 ∨ t = 8 ∨ t = 9 ∨ t = 10 := by omega

/-! ### quotient and rest -/
theorem div_same (t a b : Int) (ht : 3 ≤ t) (ht' : t ≤ 10) (ha : -9223372036854775808 ≤ a ∧ a ≤ 9223372036854775807) (hb : -9223372036854775808 ≤ b ∧ b ≤ 9223372036854775807) (hb0 : b ≠ 0) (k : Nat) (op : Int) (s s' : ByteArray) :
    ∃ q r, spec_l4Divide.f (k + 3) t a b = some (t, into t q, ⟨#[]⟩, t, into t r, ⟨#[]⟩) ∧ 0 ≤ q ∧ q < 18446744073709551616 ∧ 0 ≤ r ∧ r < 18446744073709551616 ∧ impl_divide.f 14 t a s t b s' = some q ∧ (op ≠ 14 → impl_divide.f op t a s t b s' = some r) := by
  have hu := u64_range
  by_cases hs : 7 ≤ t
  · -- types with sign
    obtain ⟨x, hx0, hx⟩ : ∃ x : Int, 0 ≤ x ∧ (a = x ∨ (a = -x ∧ 0 < x)) := by
      by_cases h : 0 ≤ a
      · exact ⟨a, h, .inl rfl⟩
      · exact ⟨-a, by omega, .inr ⟨by omega, by omega⟩⟩
    obtain ⟨y, hy0, hy⟩ : ∃ y : Int, 0 < y ∧ (b = y ∨ b = -y) := by
      by_cases h : 0 ≤ b
      · exact ⟨b, by omega, .inl rfl⟩
      · exact ⟨-b, by omega, .inr (by omega)⟩
    have hq : 0 ≤ Int.tdiv x y ∧ Int.tdiv x y ≤ x := by
      rw [Int.tdiv_eq_ediv_of_nonneg hx0]
      exact ⟨Int.ediv_nonneg hx0 (by omega), Int.ediv_le_self _ hx0⟩
    have hr : 0 ≤ Int.tmod x y ∧ Int.tmod x y < y := by
      rw [Int.tmod_eq_emod_of_nonneg hx0]
      exact ⟨Int.emod_nonneg _ (by omega), Int.emod_lt_of_pos _ hy0⟩
    generalize hQ : Int.tdiv x y = Q at hq
    generalize hR : Int.tmod x y = R at hr
    have hspec : ∀ (sa : Bool) (Z W : Int), 0 ≤ Z → Z < 18446744073709551616 → 0 ≤ W → W < 18446744073709551616 → spec_l4Divide.j0 (k + 3) t sa Z W = some (t, into t Z, ⟨#[]⟩, t, into t (if sa = true then IntKind.u64.wrap (-W) else W), ⟨#[]⟩) := by
      intro sa Z W hz0 hz1 hw0 hw1
      cases sa
      · simp [spec_l4Divide.j0, spec_l4Num.f, specInto k t Z hz0 hz1, specInto k t W hw0 hw1]
      · simp [spec_l4Divide.j0, spec_l4Num.f, specInto k t Z hz0 hz1, specInto k t _ (hu (-W)).1 (hu (-W)).2]
    have hsg : spec_l1Signed.f t = some true := by simp [spec_l1Signed.f, hs, ht']
    have hsi : impl_signed.f t = some true := by simp [impl_signed.f, hs]
    have abs_pos : ∀ z : Int, 0 ≤ z → z ≤ 9223372036854775807 → spec_l4Abs.f t z = some (z, false) := by
      intro z h0 h1
      simp only [spec_l4Abs.f, hsg, Option.bind_some, if_true]
      rw [if_neg (by omega), wrap_u64]
      congr 2; omega
    have abs_neg : ∀ z : Int, 0 < z → z ≤ 9223372036854775808 → spec_l4Abs.f t (-z) = some (z, true) := by
      intro z h0 h1
      simp only [spec_l4Abs.f, hsg, Option.bind_some, if_true]
      rw [if_pos (by omega), wrap_u64, wrap_u64]
      congr 2; omega
    rcases hx with rfl | ⟨rfl, hxp⟩ <;> rcases hy with rfl | rfl
    · -- + +
      refine ⟨Q, R, ?_, by omega, by omega, by omega, by omega, ?_, fun h14 => ?_⟩
      · unfold spec_l4Divide.f
        rw [abs_pos _ hx0 (by omega), abs_pos _ (by omega) (by omega)]
        simp only [Option.bind_some, hQ, hR, bne_self_eq_false, Bool.false_eq_true, if_false]
        rw [if_neg (by omega), wrap_u64, show Q % 18446744073709551616 = Q from by omega, hspec _ _ _ (by omega) (by omega) (by omega) (by omega)]
        simp
      · unfold impl_divide.f
        simp only [hsi, Option.bind_some, if_true, hQ, hb0, if_false]
        rw [if_neg (by omega), wrap_u64]
        congr 1; unfold wrap64; omega
      · unfold impl_divide.f
        simp only [hsi, Option.bind_some, if_true, h14, hR, hb0, if_false]
        rw [if_neg (by omega), wrap_u64]
        congr 1; omega
    · -- + -
      refine ⟨IntKind.u64.wrap (-Q), R, ?_, (hu _).1, (hu _).2, by omega, by omega, ?_, fun h14 => ?_⟩
      · unfold spec_l4Divide.f
        rw [abs_pos _ hx0 (by omega), abs_neg _ (by omega) (by omega)]
        simp only [Option.bind_some, hQ, hR]
        rw [if_neg (by omega), if_pos (by decide)]
        rw [show IntKind.u64.wrap (-(IntKind.u64.wrap Q)) = IntKind.u64.wrap (-Q) from by rw [wrap_u64, wrap_u64, wrap_u64]; omega]
        rw [hspec _ _ _ (hu _).1 (hu _).2 (by omega) (by omega)]
        simp
      · unfold impl_divide.f
        simp only [hsi, Option.bind_some, if_true]
        by_cases h1 : y = 1
        · subst h1
          rw [Int.tdiv_one] at hQ
          subst hQ
          simp only [if_true]
          congr 1; rw [wrap_u64, wrap_u64, wrap_u64]; omega
        · rw [if_neg (by omega), if_neg hb0, Int.tdiv_neg, hQ]
          congr 1; rw [wrap_u64, wrap_u64]; unfold wrap64; omega
      · unfold impl_divide.f
        simp only [hsi, Option.bind_some, if_true, h14, if_false]
        by_cases h1 : y = 1
        · subst h1
          rw [Int.tmod_one] at hR
          subst hR
          simp
        · rw [if_neg (by omega), if_neg hb0, Int.tmod_neg, hR]
          congr 1; rw [wrap_u64]; omega
    · -- - +
      refine ⟨IntKind.u64.wrap (-Q), IntKind.u64.wrap (-R), ?_, (hu _).1, (hu _).2, (hu _).1, (hu _).2, ?_, fun h14 => ?_⟩
      · unfold spec_l4Divide.f
        rw [abs_neg _ hxp (by omega), abs_pos _ (by omega) (by omega)]
        simp only [Option.bind_some, hQ, hR]
        rw [if_neg (by omega), if_pos (by decide)]
        rw [show IntKind.u64.wrap (-(IntKind.u64.wrap Q)) = IntKind.u64.wrap (-Q) from by rw [wrap_u64, wrap_u64, wrap_u64]; omega]
        rw [hspec _ _ _ (hu _).1 (hu _).2 (by omega) (by omega)]
        simp
      · unfold impl_divide.f
        simp only [hsi, Option.bind_some, if_true]
        rw [if_neg (by omega), if_neg hb0, Int.neg_tdiv, hQ]
        congr 1; rw [wrap_u64, wrap_u64]; unfold wrap64; omega
      · unfold impl_divide.f
        simp only [hsi, Option.bind_some, if_true, h14, if_false]
        rw [if_neg (by omega), if_neg hb0, Int.neg_tmod, hR]
    · -- - -
      refine ⟨Q, IntKind.u64.wrap (-R), ?_, by omega, by omega, (hu _).1, (hu _).2, ?_, fun h14 => ?_⟩
      · unfold spec_l4Divide.f
        rw [abs_neg _ hxp (by omega), abs_neg _ (by omega) (by omega)]
        simp only [Option.bind_some, hQ, hR, bne_self_eq_false, Bool.false_eq_true, if_false]
        rw [if_neg (by omega), wrap_u64, show Q % 18446744073709551616 = Q from by omega, hspec _ _ _ (by omega) (by omega) (by omega) (by omega)]
        simp
      · unfold impl_divide.f
        simp only [hsi, Option.bind_some, if_true]
        by_cases h1 : y = 1
        · subst h1
          rw [Int.tdiv_one] at hQ
          subst hQ
          simp only [if_true]
          congr 1; rw [wrap_u64, wrap_u64]; omega
        · rw [if_neg (by omega), if_neg hb0, Int.tdiv_neg, Int.neg_tdiv, hQ]
          congr 1; rw [wrap_u64]; unfold wrap64; omega
      · unfold impl_divide.f
        simp only [hsi, Option.bind_some, if_true, h14, if_false]
        by_cases h1 : y = 1
        · subst h1
          rw [Int.tmod_one] at hR
          subst hR
          simp [wrap_u64]
        · rw [if_neg (by omega), if_neg hb0, Int.tmod_neg, Int.neg_tmod, hR]
  · -- types without sign
    have hX := hu a
    have hY := hu b
    have hy1 : IntKind.u64.wrap b ≠ 0 := by rw [wrap_u64]; omega
    have hq : 0 ≤ Int.tdiv (IntKind.u64.wrap a) (IntKind.u64.wrap b) ∧ Int.tdiv (IntKind.u64.wrap a) (IntKind.u64.wrap b) ≤ IntKind.u64.wrap a := by
      rw [Int.tdiv_eq_ediv_of_nonneg hX.1]
      exact ⟨Int.ediv_nonneg hX.1 (by omega), Int.ediv_le_self _ hX.1⟩
    have hr : 0 ≤ Int.tmod (IntKind.u64.wrap a) (IntKind.u64.wrap b) ∧ Int.tmod (IntKind.u64.wrap a) (IntKind.u64.wrap b) < IntKind.u64.wrap b := by
      rw [Int.tmod_eq_emod_of_nonneg hX.1]
      exact ⟨Int.emod_nonneg _ hy1, Int.emod_lt_of_pos _ (by omega)⟩
    have hsg : spec_l1Signed.f t = some false := by simp only [spec_l1Signed.f]; rw [if_neg (by omega)]
    have hsi : impl_signed.f t = some false := by simp [impl_signed.f]; omega
    refine ⟨IntKind.u64.wrap (Int.tdiv (IntKind.u64.wrap a) (IntKind.u64.wrap b)), Int.tmod (IntKind.u64.wrap a) (IntKind.u64.wrap b), ?_, (hu _).1, (hu _).2, hr.1, by omega, ?_, fun h14 => ?_⟩
    · unfold spec_l4Divide.f spec_l4Abs.f
      simp only [hsg, Option.bind_some, Bool.false_eq_true, if_false, bne_self_eq_false]
      rw [if_neg hy1]
      simp only [spec_l4Divide.j0, Bool.false_eq_true, if_false, spec_l4Num.f]
      rw [specInto k t _ (hu _).1 (hu _).2, specInto k t _ hr.1 (by omega)]
      simp
    · unfold impl_divide.f
      simp only [hsi, Option.bind_some, Bool.false_eq_true, if_false, if_true]
      rw [if_neg hy1]
    · unfold impl_divide.f
      simp only [hsi, Option.bind_some, Bool.false_eq_true, if_false, h14]
      rw [if_neg hy1]

/-! ### shifts -/
/-- The u64 that x times 2 to the i is. -/
def up (x : Int) (i : Nat) : Int := IntKind.u64.wrap (x * 2 ^ i)
theorem up_zero (x : Int) (h0 : 0 ≤ x) (h1 : x < 18446744073709551616) : up x 0 = x := by
  unfold up; rw [wrap_u64]; simp; omega
theorem up_succ (x : Int) (i : Nat) : up x (i + 1) = IntKind.u64.wrap (up x i * 2) := by
  unfold up
  rw [Int.pow_succ, ← Int.mul_assoc, wrap_u64, wrap_u64, wrap_u64]
  generalize x * 2 ^ i = z
  omega
theorem up_range (x : Int) (i : Nat) : 0 ≤ up x i ∧ up x i < 18446744073709551616 := u64_range _
theorem md8 (x c : Int) : (x % 18446744073709551616 + c) % 256 = (x + c) % 256 := by omega
theorem md16 (x c : Int) : (x % 18446744073709551616 + c) % 65536 = (x + c) % 65536 := by omega
theorem md32 (x c : Int) : (x % 18446744073709551616 + c) % 4294967296 = (x + c) % 4294967296 := by omega
theorem mt8 (x c : Int) : (x % 18446744073709551616 * 2 + c) % 256 = (x * 2 + c) % 256 := by omega
theorem mt16 (x c : Int) : (x % 18446744073709551616 * 2 + c) % 65536 = (x * 2 + c) % 65536 := by omega
theorem mt32 (x c : Int) : (x % 18446744073709551616 * 2 + c) % 4294967296 = (x * 2 + c) % 4294967296 := by omega
theorem md8z (x : Int) : (x % 18446744073709551616) % 256 = (x + 0) % 256 := by omega
theorem md16z (x : Int) : (x % 18446744073709551616) % 65536 = (x + 0) % 65536 := by omega
theorem md32z (x : Int) : (x % 18446744073709551616) % 4294967296 = (x + 0) % 4294967296 := by omega
theorem u64_wrap64 (z : Int) (h0 : 0 ≤ z) (h1 : z < 18446744073709551616) : wrap64 z % 18446744073709551616 = z := by unfold wrap64; omega
theorem into_double (t z : Int) (h0 : 0 ≤ z) (h1 : z < 18446744073709551616) : into t (IntKind.u64.wrap (IntKind.u64.wrap (into t z) * 2)) = into t (IntKind.u64.wrap (z * 2)) := by
  unfold into
  simp only [wrap_u64]
  by_cases a : t = 3
  · simp only [a, if_true]; rw [md8z, md8z, mt8]; clear h0 h1; omega
  · by_cases b : t = 4
    · simp only [a, b, if_true, if_false]; rw [md16z, md16z, mt16]; clear h0 h1; omega
    · by_cases c : t = 5
      · simp only [a, b, c, if_true, if_false]; rw [md32z, md32z, mt32]; clear h0 h1; omega
      · by_cases d : t = 7
        · simp only [a, b, c, d, if_true, if_false]; rw [md8, md8, mt8]; clear h0 h1; omega
        · by_cases e : t = 8
          · simp only [a, b, c, d, e, if_true, if_false]; rw [md16, md16, mt16]; clear h0 h1; omega
          · by_cases f : t = 9
            · simp only [a, b, c, d, e, f, if_true, if_false]; rw [md32, md32, mt32]; clear h0 h1; omega
            · simp only [a, b, c, d, e, f, if_false]; rw [u64_wrap64 z h0 h1]
theorem wrap_step {i b : Nat} (h : i < b) (hb : b ≤ 64) : wrap64 ((i : Int) + 1) = ((i + 1 : Nat) : Int) := by unfold wrap64; omega
theorem num_some (q : Nat) (t x : Int) (h0 : 0 ≤ x) (h1 : x < 18446744073709551616) : spec_l4Num.f (q + 2) t x = some (t, into t x, ⟨#[]⟩) := by
  unfold spec_l4Num.f
  rw [specInto q t x h0 h1]
  rfl
theorem left_step (q : Nat) (t n i b : Int) (s : ByteArray) (h : i < b) : spec_l4Shift.l0 (q + 2 + 1) 17 t b i t n s = spec_l4Shift.l0 (q + 2) 17 t b (wrap64 (i + 1)) t (into t (IntKind.u64.wrap (IntKind.u64.wrap n * 2))) ⟨#[]⟩ := by
  have e := num_some q t (IntKind.u64.wrap (IntKind.u64.wrap n * 2)) (u64_range _).1 (u64_range _).2
  rw [spec_l4Shift.l0, if_pos h, if_pos rfl, e]
  generalize into t (IntKind.u64.wrap (IntKind.u64.wrap n * 2)) = v
  rfl
theorem left_ends (t X : Int) (h0 : 0 ≤ X) (h1 : X < 18446744073709551616) (b : Nat) (hb : b ≤ 64) : ∀ (d k i : Nat), b - i = d → i ≤ b → d + 4 ≤ k → spec_l4Shift.l0 k 17 t b i t (into t (up X i)) ⟨#[]⟩ = some (t, into t (up X b), ⟨#[]⟩) := by
  intro d
  induction d with
  | zero =>
    intro k i e1 e2 e3
    obtain ⟨k, rfl⟩ : ∃ m, k = m + 1 := ⟨k - 1, by omega⟩
    obtain rfl : i = b := by omega
    rw [spec_l4Shift.l0, if_neg (by omega)]
  | succ d ih =>
    intro k i e1 e2 e3
    obtain ⟨q, rfl⟩ : ∃ m, k = m + 2 + 1 := ⟨k - 3, by omega⟩
    rw [left_step q t _ _ _ _ (by omega), into_double t _ (up_range X i).1 (up_range X i).2, ← up_succ, wrap_step (by omega : i < b) hb]
    exact ih (q + 2) (i + 1) (by omega) (by omega) (by omega)
theorem down_zero (x : Int) : x / 2 ^ 0 = x := by simp
theorem down_succ (x : Int) (i : Nat) : x / 2 ^ (i + 1) = x / 2 ^ i / 2 := by
  rw [Int.pow_succ, ← Int.ediv_ediv_of_nonneg (Int.pow_nonneg (by decide) : (0 : Int) ≤ 2 ^ i)]
theorem down_range (x : Int) (h0 : 0 ≤ x) (h1 : x < 18446744073709551616) (i : Nat) : 0 ≤ x / 2 ^ i ∧ x / 2 ^ i < 18446744073709551616 := by
  have hp : (0 : Int) < 2 ^ i := Int.pow_pos (by decide)
  exact ⟨Int.ediv_nonneg h0 (by omega), Int.lt_of_le_of_lt (Int.ediv_le_self _ h0) h1⟩
theorem right_u_ends (t X : Int) (hs : spec_l1Signed.f t = some false) (h0 : 0 ≤ X) (h1 : X < 18446744073709551616) (b : Nat) (hb : b ≤ 64) : ∀ (d k i : Nat), b - i = d → i ≤ b → d + 4 ≤ k → spec_l4Shift.l0 k 18 t b i t (wrap64 (X / 2 ^ i)) ⟨#[]⟩ = some (t, wrap64 (X / 2 ^ b), ⟨#[]⟩) := by
  intro d
  induction d with
  | zero =>
    intro k i e1 e2 e3
    obtain ⟨k, rfl⟩ : ∃ m, k = m + 1 := ⟨k - 1, by omega⟩
    obtain rfl : i = b := by omega
    simp only [spec_l4Shift.l0]; rw [if_neg (by omega)]
  | succ d ih =>
    intro k i e1 e2 e3
    obtain ⟨k, rfl⟩ : ∃ m, k = m + 1 := ⟨k - 1, by omega⟩
    have hr := down_range X h0 h1 i
    simp only [spec_l4Shift.l0]
    rw [if_pos (by omega), if_neg (by decide), hs]
    simp only [Option.bind_some, Bool.false_eq_true, if_false]
    have e : wrap64 (IntKind.u64.wrap (Int.tdiv (IntKind.u64.wrap (wrap64 (X / 2 ^ i))) 2)) = wrap64 (X / 2 ^ (i + 1)) := by
      rw [down_succ]
      generalize X / 2 ^ i = z at hr
      rw [show IntKind.u64.wrap (wrap64 z) = z from by rw [wrap_u64]; unfold wrap64; omega, Int.tdiv_eq_ediv_of_nonneg hr.1, wrap_u64]
      congr 1; omega
    rw [e, wrap_step (by omega : i < b) hb]
    exact ih k (i + 1) (by omega) (by omega) (by omega)
theorem right_s_ends (t a : Int) (hs : spec_l1Signed.f t = some true) (h0 : -9223372036854775808 ≤ a) (h1 : a ≤ 9223372036854775807) (b : Nat) (hb : b ≤ 64) : ∀ (d k i : Nat), b - i = d → i ≤ b → -9223372036854775808 ≤ a / 2 ^ i ∧ a / 2 ^ i ≤ 9223372036854775807 → d + 4 ≤ k → spec_l4Shift.l0 k 18 t b i t (a / 2 ^ i) ⟨#[]⟩ = some (t, a / 2 ^ b, ⟨#[]⟩) := by
  intro d
  induction d with
  | zero =>
    intro k i e1 e2 hr e3
    obtain ⟨k, rfl⟩ : ∃ m, k = m + 1 := ⟨k - 1, by omega⟩
    obtain rfl : i = b := by omega
    simp only [spec_l4Shift.l0]; rw [if_neg (by omega)]
  | succ d ih =>
    intro k i e1 e2 hr e3
    obtain ⟨k, rfl⟩ : ∃ m, k = m + 1 := ⟨k - 1, by omega⟩
    have hd := down_succ a i
    have next := ih k (i + 1) (by omega) (by omega) (by rw [hd]; omega) (by omega)
    rw [hd] at next
    simp only [spec_l4Shift.l0]
    rw [if_pos (by omega), if_neg (by decide), hs]
    simp only [Option.bind_some, if_true]
    rw [wrap_step (by omega : i < b) hb]
    generalize a / 2 ^ i = v at hr next ⊢
    by_cases hv : v < 0
    · rw [if_pos hv]
      obtain ⟨w, rfl⟩ : ∃ w : Int, v = -w := ⟨-v, by omega⟩
      rw [Int.neg_tmod, Int.neg_tdiv, Int.tmod_eq_emod_of_nonneg (by omega), Int.tdiv_eq_ediv_of_nonneg (by omega)]
      by_cases hm : -(w % 2) = 0
      · rw [if_pos hm, show wrap64 (-(w / 2)) = -w / 2 from by unfold wrap64; omega]
        exact next
      · rw [if_neg hm, show wrap64 (wrap64 (-(w / 2)) - 1) = -w / 2 from by unfold wrap64; omega]
        exact next
    · rw [if_neg hv, Int.tdiv_eq_ediv_of_nonneg (by omega), show wrap64 (v / 2) = v / 2 from by unfold wrap64; omega]
      exact next
end Go.Proofs.Ytajlomhnednghaa.R
/- Program's and reference's Binary tell the same. No conditions. -/
namespace Go.Proofs.Ytajlomhnednghaa.R
open Go.RowKit Go.Proofs.YtajlomhnednghaaW.PrintWords Go.Proofs.YtajlomhnednghaaW.PrintLast Go.Proofs.YtajlomhnednghaaW.PrintMore Go.Proofs.Ytajlomhnednghaa.Arith
set_option linter.unusedVariables false
set_option linter.unusedSimpArgs false

/-! ### types -/
theorem bin_type (q : Nat) (op a b : Int) (ha : 1 ≤ a) (ha' : a ≤ 10) (hop : 1 ≤ op) (hop' : op ≤ 18) : ∃ r, spec_l3Bin.f (q + 5) op a b = some r ∧ impl_binType.f (q + 5) op a b = some r ∧
    (r ≠ 0 → a = b ∧ ((op ≤ 2 ∧ a = 1) ∨ (3 ≤ op ∧ op ≤ 4) ∨ (5 ≤ op ∧ op ≤ 9 ∧ 2 ≤ a) ∨ (10 ≤ op ∧ 3 ≤ a))) := by
  unfold spec_l3Bin.f impl_binType.f
  by_cases e : a = b
  · subst e
    have h0 : (a == 0) = false := by simp; omega
    rw [if_pos rfl, if_pos rfl, h0]
    rw [spec_l3Bin.j0, impl_binType.j0]
    simp only [Bool.false_eq_true, if_false]
    have ops : op = 1 ∨ op = 2 ∨ op = 3 ∨ op = 4 ∨ op = 5 ∨ op = 6 ∨ op = 7 ∨ op = 8 ∨ op = 9 ∨ (10 ≤ op ∧ op ≤ 18) := by omega
    rcases ops with rfl | rfl | rfl | rfl | rfl | rfl | rfl | rfl | rfl | ⟨h1, h2⟩
    iterate 9
      by_cases a1 : a = 1 <;> by_cases a2 : a = 2 <;> by_cases a3 : 3 ≤ a <;> first | omega | (simp [spec_l3Bin.j1, spec_l3Bin.j2, spec_l3Bin.j3, impl_binType.j1, impl_binType.j2, impl_binType.j3, impl_binType.j4, spec_l1Integer.f, impl_integer.f, a1, a2, a3, ha'] <;> omega)
    have n1 : ¬ op = 1 := by omega
    have n2 : ¬ op = 2 := by omega
    have n3 : ¬ op = 3 := by omega
    have n4 : ¬ op = 4 := by omega
    have n5 : ¬ op = 5 := by omega
    have n6 : ¬ op = 6 := by omega
    have n7 : ¬ op = 7 := by omega
    have n8 : ¬ op = 8 := by omega
    have n9 : ¬ op = 9 := by omega
    have b2 : (op == 2) = false := by simp [n2]
    have b4 : (op == 4) = false := by simp [n4]
    have b8 : (op == 8) = false := by simp [n8]
    have g5 : op ≥ 5 := by omega
    have l8 : decide (op ≤ 8) = false := by simp; omega
    have g9 : op > 9 := by omega
    have l18 : decide (op ≤ 18) = true := by simp [h2]
    by_cases a1 : a = 1 <;> by_cases a2 : a = 2 <;> by_cases a3 : 3 ≤ a <;> first | omega | (simp [spec_l3Bin.j1, spec_l3Bin.j2, spec_l3Bin.j3, impl_binType.j1, impl_binType.j2, impl_binType.j3, impl_binType.j4, spec_l1Integer.f, impl_integer.f, a1, a2, a3, ha', n1, n2, n3, n4, n5, n6, n7, n8, n9, b2, b4, b8, g5, l8, g9, l18] <;> omega)
  · rw [if_neg e, if_neg e, spec_l3Bin.j0, impl_binType.j0]
    exact ⟨0, rfl, rfl, fun h => absurd rfl h⟩
theorem bin_type_out (q : Nat) (op a b : Int) (ha : 1 ≤ a) (ha' : a ≤ 10) (hop : op < 1 ∨ 18 < op) : impl_binType.f (q + 5) op a b = some 0 := by
  unfold impl_binType.f
  have n1 : ¬ op = 1 := by omega
  have n2 : ¬ op = 2 := by omega
  have n3 : ¬ op = 3 := by omega
  have n4 : ¬ op = 4 := by omega
  have n9 : ¬ op = 9 := by omega
  have b2 : (op == 2) = false := by simp [n2]
  have b4 : (op == 4) = false := by simp [n4]
  by_cases e : a = b
  · subst e
    have h0 : (a == 0) = false := by simp; omega
    rw [if_pos rfl, h0, impl_binType.j0]
    simp only [Bool.false_eq_true, if_false, n1]
    rw [b2, impl_binType.j1]
    simp only [Bool.false_eq_true, if_false, n3]
    rw [b4, impl_binType.j2]
    simp only [Bool.false_eq_true, if_false]
    by_cases g5 : op ≥ 5
    · rw [if_pos g5, show decide (op ≤ 8) = false from by simp; omega, impl_binType.j3]
      simp only [Bool.false_eq_true, if_false, n9]
      rw [if_pos (by omega), show decide (op ≤ 18) = false from by simp; omega, impl_binType.j4]
      simp
    · rw [if_neg g5, impl_binType.j3]
      simp only [Bool.false_eq_true, if_false, n9]
      rw [if_neg (by omega), impl_binType.j4]
      simp
  · rw [if_neg e, impl_binType.j0]; rfl

theorem valid_type {t n : Int} {s : ByteArray} (h : valid t n s = true) : 1 ≤ t ∧ t ≤ 10 := by
  unfold valid at h
  by_cases h1 : t = 1
  · omega
  · by_cases h2 : t = 2
    · omega
    · simp only [h1, h2, if_false, Bool.and_eq_true, decide_eq_true_eq] at h
      omega
theorem valid_bool {n : Int} {s : ByteArray} (h : valid 1 n s = true) : (n = 0 ∨ n = 1) ∧ s.toList = [] := by
  unfold valid at h
  simpa using h
theorem valid_text {n : Int} {s : ByteArray} (h : valid 2 n s = true) : n = 0 ∧ s.size ≤ 3000 := by
  unfold valid at h
  simp at h
  omega
theorem into_range (t x : Int) : -9223372036854775808 ≤ into t x ∧ into t x ≤ 9223372036854775807 := by
  unfold into wrap64
  repeat' split
  all_goals omega
theorem truth_same (b : Bool) : impl_truth.f b = spec_l4Bool.f b := rfl
theorem truth_some (b : Bool) : ∃ r, spec_l4Bool.f b = some r := by unfold spec_l4Bool.f; split <;> exact ⟨_, rfl⟩
theorem text_nil {s s' : ByteArray} (h : s.toList = []) (h' : s'.toList = []) : (s.toList == s'.toList) = true := by rw [h, h']; rfl

/-! ### order -/
theorem order_some (q : Nat) (t a b : Int) (s s' : ByteArray) (ht' : t ≤ 10) : ∃ o, impl_order.f (q + 1) t a s t b s' = some o ∧ ∃ l e, spec_l4Compare.f t a s t b s' = some (l, e) ∧ (o < 0 ↔ l = true) ∧ (o = 0 ↔ ¬ l = true ∧ e = true) ∧ (o > 0 ↔ ¬ l = true ∧ ¬ e = true) := by
  unfold impl_order.f spec_l4Compare.f
  by_cases t2 : t = 2
  · obtain ⟨c1, c2, c3⟩ := cmp_bytes s.data.toList s'.data.toList
    have es : s.toList = s.data.toList := ByteArray.toList_eq s
    have es' : s'.toList = s'.data.toList := ByteArray.toList_eq s'
    rw [if_pos t2, if_pos t2, es, es']
    refine ⟨_, rfl, _, _, rfl, c1, ?_, ?_⟩
    · rw [c2]
      constructor
      · intro e
        refine ⟨fun hl => ?_, by rw [e]; simp⟩
        have := c1.2 hl
        have := c2.2 e
        omega
      · intro e; simpa using e.2
    · rw [c3]; simp
  · rw [if_neg t2, if_neg t2]
    have key : ∀ l : Bool, (l = true → a ≠ b) → ∃ o, impl_order.j0 (q + 1) l t a s t b s' = some o ∧ (o < 0 ↔ l = true) ∧ (o = 0 ↔ ¬ l = true ∧ (a == b) = true) ∧ (o > 0 ↔ ¬ l = true ∧ ¬ (a == b) = true) := by
      intro l hl
      rw [impl_order.j0]
      by_cases e : l = true
      · rw [if_pos e]; exact ⟨-1, rfl, by simp [e], by simp [e], by simp [e]⟩
      · rw [if_neg e]
        by_cases ab : a = b
        · rw [if_pos ab]; exact ⟨0, rfl, by simp [e], by simp [e, ab], by simp [e, ab]⟩
        · rw [if_neg ab]; exact ⟨1, rfl, by simp [e], by simp [e, ab], by simp [e, ab]⟩
    unfold spec_l4Less.f
    by_cases sg : 7 ≤ t
    · have h1 : impl_signed.f t = some true := by simp [impl_signed.f, sg]
      have h2 : spec_l1Signed.f t = some true := by simp [spec_l1Signed.f, sg, ht']
      rw [h1, h2]
      simp only [Option.bind_some, if_true]
      obtain ⟨o, ho, r⟩ := key (decide (a < b)) (by simp; omega)
      exact ⟨o, ho, _, _, rfl, r⟩
    · have h1 : impl_signed.f t = some false := by simp [impl_signed.f]; omega
      have h2 : spec_l1Signed.f t = some false := by simp only [spec_l1Signed.f]; rw [if_neg (by omega)]
      rw [h1, h2]
      simp only [Option.bind_some, Bool.false_eq_true, if_false]
      obtain ⟨o, ho, r⟩ := key (decide (IntKind.u64.wrap a < IntKind.u64.wrap b)) (by intro h e; subst e; simp at h)
      exact ⟨o, ho, _, _, rfl, r⟩

/-! ### shifts -/
theorem bits_le (t : Int) : 8 ≤ ibits t ∧ ibits t ≤ 64 := by rcases ibits_cases t with ⟨_, h⟩ | ⟨_, h⟩ | ⟨_, h⟩ | ⟨_, h⟩ <;> rw [h] <;> omega
theorem up_full (t X : Int) : into t (up X (ibits t).toNat) = 0 := by
  unfold up
  rcases ibits_cases t with ⟨ht, h⟩ | ⟨ht, h⟩ | ⟨ht, h⟩ | ⟨ht, h⟩ <;> rw [h, wrap_u64]
  · rw [show (2 : Int) ^ (8 : Int).toNat = 256 from by decide]
    rcases ht with rfl | rfl <;> simp [into] <;> omega
  · rw [show (2 : Int) ^ (16 : Int).toNat = 65536 from by decide]
    rcases ht with rfl | rfl <;> simp [into] <;> omega
  · rw [show (2 : Int) ^ (32 : Int).toNat = 4294967296 from by decide]
    rcases ht with rfl | rfl <;> simp [into] <;> omega
  · rw [show (2 : Int) ^ (64 : Int).toNat = 18446744073709551616 from by decide, Int.mul_emod_left]
    exact into_zero t
theorem min_bits {b : Int} {m : Nat} (h0 : 0 ≤ b) (h : b ≤ m) (hm : m ≤ 64) : min b.toNat 64 = b.toNat := Nat.min_eq_left (by omega)
theorem shl_up (X b : Int) (h0 : 0 ≤ b) (h : b ≤ 64) : shl .u64 X b = up X b.toNat := by
  unfold shl up
  rw [show min b.toNat (IntKind.u64).bits = b.toNat from Nat.min_eq_left (by simp [IntKind.bits]; omega)]
theorem shr_down (k : IntKind) (hk : k.bits = 64) (X b : Int) (h0 : 0 ≤ b) (h : b ≤ 64) : shr k X b = X / 2 ^ b.toNat := by
  unfold shr
  rw [show min b.toNat k.bits = b.toNat from Nat.min_eq_left (by omega)]
theorem down_le (n : Int) (i : Nat) : (0 ≤ n → 0 ≤ n / 2 ^ i ∧ n / 2 ^ i ≤ n) ∧ (n < 0 → n ≤ n / 2 ^ i ∧ n / 2 ^ i < 0) := by
  have hp : (0 : Int) < 2 ^ i := Int.pow_pos (by decide)
  refine ⟨fun h => ⟨Int.ediv_nonneg h (by omega), Int.ediv_le_self _ h⟩, fun h => ⟨?_, ?_⟩⟩
  · apply Int.le_ediv_of_mul_le hp
    have : n * 2 ^ i ≤ n * 1 := Int.mul_le_mul_of_nonpos_left (by omega) (by omega)
    omega
  · exact Int.ediv_neg_of_neg_of_pos h hp
theorem into_u64_self {t n : Int} (ht : 3 ≤ t) (ht' : t ≤ 10) (h : n = into t (IntKind.u64.wrap n)) (z : Int) (h1 : 0 ≤ n → 0 ≤ z ∧ z ≤ n) (h2 : n < 0 → n ≤ z ∧ z < 0) (hs : 7 ≤ t) : into t (IntKind.u64.wrap z) = z := by
  rw [wrap_u64] at h ⊢
  rcases type_cases ht ht' with rfl | rfl | rfl | rfl | rfl | rfl | rfl | rfl
  iterate 4 omega
  all_goals
    simp only [into] at h ⊢
    simp at h ⊢
  · rw [md8] at h ⊢; omega
  · rw [md16] at h ⊢; omega
  · rw [md32] at h ⊢; omega
  · unfold wrap64 at h ⊢; omega
theorem u64_small {b : Int} (hb : -9223372036854775808 ≤ b ∧ b ≤ 9223372036854775807) {m : Int} (hm : m ≤ 64) (h : IntKind.u64.wrap b ≤ m) : 0 ≤ b ∧ b ≤ m ∧ IntKind.u64.wrap b = b := by
  rw [wrap_u64] at h ⊢; omega
theorem shift_same (q : Nat) (t n b : Int) (s s' : ByteArray) (ht : 3 ≤ t) (ht' : t ≤ 10) (hn : n = into t (IntKind.u64.wrap n)) (hb : -9223372036854775808 ≤ b ∧ b ≤ 9223372036854775807) (op : Int) (hop : op = 17 ∨ op = 18) :
    ∃ z, spec_l4Shift.f (q + 80) op t n b = some (t, into t z, ⟨#[]⟩) ∧ 0 ≤ z ∧ z < 18446744073709551616 ∧ impl_shift.f (q + 80) op t n s t b s' = some z := by
  have hu := u64_range
  have hm := bits_le t
  have hum : IntKind.u64.wrap (ibits t) = ibits t := by rw [wrap_u64]; omega
  have hwm : wrap64 (ibits t) = ibits t := by unfold wrap64; omega
  have hnr := into_range t (IntKind.u64.wrap n)
  rw [← hn] at hnr
  -- what the shift counts
  have main : ∃ (c : Nat) (full neg : Bool), c ≤ 64 ∧ (c : Int) ≤ ibits t ∧ spec_l4Shift.f (q + 80) op t n b = spec_l4Shift.l0 (q + 78) op t c 0 t n ⟨#[]⟩ ∧ impl_shift.f (q + 80) op t n s t b s' = impl_shift.j1 (q + 79) op full t n s t b s' ∧
      (full = true → (c : Int) = ibits t) ∧ (full = false → b = c ∧ 0 ≤ b ∧ b < ibits t ∧ IntKind.u64.wrap b = b) := by
    unfold spec_l4Shift.f impl_shift.f
    rw [specBits (q + 78), implBits (q + 78)]
    simp only [Option.bind_some, hum]
    have fin : ∀ x : Bool, (x = true ∧ ((7 ≤ t ∧ b < 0) ∨ ibits t < IntKind.u64.wrap b)) ∨ (x = false ∧ ¬ ((7 ≤ t ∧ b < 0) ∨ ibits t < IntKind.u64.wrap b)) →
        spec_l4Shift.j0 (q + 80) op t n b (ibits t) x = spec_l4Shift.l0 (q + 78) op t (((if x = true then ibits t else b).toNat : Nat) : Int) 0 t n ⟨#[]⟩ := by
      intro x hx
      rw [spec_l4Shift.j0]
      rcases hx with ⟨rfl, _⟩ | ⟨rfl, hx⟩
      · rw [if_pos rfl, spec_l4Shift.j1, hwm, if_pos rfl, Int.toNat_of_nonneg (by omega)]
      · obtain ⟨b0, b1, b2⟩ := u64_small hb hm.2 (by omega : IntKind.u64.wrap b ≤ ibits t)
        rw [if_neg (by simp), spec_l4Shift.j1, if_neg (by simp), Int.toNat_of_nonneg b0]
    by_cases sg : 7 ≤ t
    · have h1 : impl_signed.f t = some true := by simp [impl_signed.f, sg]
      have h2 : spec_l1Signed.f t = some true := by simp [spec_l1Signed.f, sg, ht']
      rw [h1, h2]
      simp only [Option.bind_some, if_true]
      rw [impl_shift.j0]
      by_cases bn : b < 0
      · rw [if_pos bn, fin true (.inl ⟨rfl, .inl ⟨sg, bn⟩⟩), if_pos (show decide (b < 0) = true from by simp [bn])]
        exact ⟨_, true, true, by simp; omega, by simp; omega, rfl, rfl, fun _ => by simp; omega, fun h => by cases h⟩
      · rw [if_neg bn, if_neg (show ¬ decide (b < 0) = true from by simp [bn])]
        by_cases big : ibits t < IntKind.u64.wrap b
        · rw [show decide (IntKind.u64.wrap b > ibits t) = true from by simp [big], fin true (.inl ⟨rfl, .inr big⟩), show decide (IntKind.u64.wrap b ≥ ibits t) = true from by simp; omega]
          exact ⟨_, true, true, by simp; omega, by simp; omega, rfl, rfl, fun _ => by simp; omega, fun h => by cases h⟩
        · obtain ⟨b0, b1, b2⟩ := u64_small hb hm.2 (by omega : IntKind.u64.wrap b ≤ ibits t)
          rw [show decide (IntKind.u64.wrap b > ibits t) = false from by simp; omega, fin false (.inr ⟨rfl, by omega⟩)]
          refine ⟨_, _, true, by simp; omega, by simp; omega, rfl, rfl, fun h => ?_, fun h => ?_⟩
          · simp at h; simp; omega
          · simp at h; simp; omega
    · have h1 : impl_signed.f t = some false := by simp [impl_signed.f]; omega
      have h2 : spec_l1Signed.f t = some false := by simp only [spec_l1Signed.f]; rw [if_neg (by omega)]
      rw [h1, h2]
      simp only [Option.bind_some, Bool.false_eq_true, if_false]
      rw [impl_shift.j0, if_neg (by simp)]
      by_cases big : ibits t < IntKind.u64.wrap b
      · rw [show decide (IntKind.u64.wrap b > ibits t) = true from by simp [big], fin true (.inl ⟨rfl, .inr big⟩), show decide (IntKind.u64.wrap b ≥ ibits t) = true from by simp; omega]
        exact ⟨_, true, true, by simp; omega, by simp; omega, rfl, rfl, fun _ => by simp; omega, fun h => by cases h⟩
      · obtain ⟨b0, b1, b2⟩ := u64_small hb hm.2 (by omega : IntKind.u64.wrap b ≤ ibits t)
        rw [show decide (IntKind.u64.wrap b > ibits t) = false from by simp; omega, fin false (.inr ⟨rfl, by omega⟩)]
        refine ⟨_, _, true, by simp; omega, by simp; omega, rfl, rfl, fun h => ?_, fun h => ?_⟩
        · simp at h; simp; omega
        · simp at h; simp; omega
  obtain ⟨c, full, _, hc, hcm, hspec, himpl, hfull, hpart⟩ := main
  rw [hspec, himpl, impl_shift.j1]
  have hX := hu n
  rcases hop with rfl | rfl
  · -- to the left
    have hl := left_ends t (IntKind.u64.wrap n) hX.1 hX.2 c hc c (q + 78) 0 (by omega) (by omega) (by omega)
    rw [up_zero _ hX.1 hX.2, ← hn] at hl
    have hl' : spec_l4Shift.l0 (q + 78) 17 t c 0 t n ⟨#[]⟩ = some (t, into t (up (IntKind.u64.wrap n) c), ⟨#[]⟩) := hl
    rw [hl']
    cases full with
    | true =>
      refine ⟨0, ?_, by omega, by omega, by simp⟩
      rw [show c = (ibits t).toNat from by have := hfull rfl; omega, up_full, into_zero]
    | false =>
      obtain ⟨e, b0, b1, b2⟩ := hpart rfl
      refine ⟨up (IntKind.u64.wrap n) c, rfl, (up_range _ _).1, (up_range _ _).2, ?_⟩
      simp only [Bool.false_eq_true, if_false, if_true]
      rw [if_pos (hu b).1, b2, shl_up _ _ b0 (by omega), show b.toNat = c from by omega]
  · by_cases sg : 7 ≤ t
    · -- to the right, with sign
      have h1 : impl_signed.f t = some true := by simp [impl_signed.f, sg]
      have h2 : spec_l1Signed.f t = some true := by simp [spec_l1Signed.f, sg, ht']
      have hr := right_s_ends t n h2 hnr.1 hnr.2 c hc c (q + 78) 0 (by omega) (by omega) (by simp; omega) (by omega)
      rw [down_zero] at hr
      have hr' : spec_l4Shift.l0 (q + 78) 18 t c 0 t n ⟨#[]⟩ = some (t, n / 2 ^ c, ⟨#[]⟩) := hr
      have hd := down_le n c
      have hself := into_u64_self ht ht' hn (n / 2 ^ c) hd.1 hd.2 sg
      rw [hr']
      cases full with
      | true =>
        have hcm := hfull rfl
        simp only [if_true, h1, Option.bind_some]
        by_cases neg : n < 0
        · refine ⟨18446744073709551615, ?_, by omega, by omega, by rw [if_pos neg]⟩
          have e : n / 2 ^ c = -1 := by
            have hp := hd.2 neg
            have hlow : -1 ≤ n / 2 ^ c := by
              apply Int.le_ediv_of_mul_le (Int.pow_pos (by decide))
              rw [wrap_u64] at hn
              rcases type_cases ht ht' with rfl | rfl | rfl | rfl | rfl | rfl | rfl | rfl
              iterate 4 omega
              · rw [show c = 8 from by simp [ibits] at hcm; omega]; simp [into] at hn; omega
              · rw [show c = 16 from by simp [ibits] at hcm; omega]; simp [into] at hn; omega
              · rw [show c = 32 from by simp [ibits] at hcm; omega]; simp [into] at hn; omega
              · rw [show c = 64 from by simp [ibits] at hcm; omega]; simp; omega
            omega
          rw [e]
          congr 3
          rcases type_cases ht ht' with rfl | rfl | rfl | rfl | rfl | rfl | rfl | rfl <;> first | omega | decide | simp [into, wrap64]
        · refine ⟨0, ?_, by omega, by omega, by rw [if_neg neg]⟩
          have e : n / 2 ^ c = 0 := by
            apply Int.ediv_eq_zero_of_lt (by omega)
            rw [wrap_u64] at hn
            rcases type_cases ht ht' with rfl | rfl | rfl | rfl | rfl | rfl | rfl | rfl
            iterate 4 omega
            · rw [show c = 8 from by simp [ibits] at hcm; omega]; simp [into] at hn; omega
            · rw [show c = 16 from by simp [ibits] at hcm; omega]; simp [into] at hn; omega
            · rw [show c = 32 from by simp [ibits] at hcm; omega]; simp [into] at hn; omega
            · rw [show c = 64 from by simp [ibits] at hcm; omega]; simp; omega
          rw [e, into_zero]
      | false =>
        obtain ⟨e, b0, b1, b2⟩ := hpart rfl
        refine ⟨IntKind.u64.wrap (n / 2 ^ c), by rw [hself], (hu _).1, (hu _).2, ?_⟩
        simp only [Bool.false_eq_true, if_false, show ¬ ((18 : Int) = 17) from by decide, h1, Option.bind_some, if_true]
        rw [if_pos (hu b).1, b2, shr_down .i64 rfl _ _ b0 (by omega), show b.toNat = c from by omega]
    · -- to the right, without sign
      have h1 : impl_signed.f t = some false := by simp [impl_signed.f]; omega
      have h2 : spec_l1Signed.f t = some false := by simp only [spec_l1Signed.f]; rw [if_neg (by omega)]
      have hr := right_u_ends t (IntKind.u64.wrap n) h2 hX.1 hX.2 c hc c (q + 78) 0 (by omega) (by omega) (by omega)
      have hwn : wrap64 (IntKind.u64.wrap n) = n := by
        rw [wrap_u64] at hn ⊢
        unfold wrap64
        omega
      rw [down_zero, hwn] at hr
      have hr' : spec_l4Shift.l0 (q + 78) 18 t c 0 t n ⟨#[]⟩ = some (t, wrap64 (IntKind.u64.wrap n / 2 ^ c), ⟨#[]⟩) := hr
      have hd := (down_le (IntKind.u64.wrap n) c).1 hX.1
      rw [hr']
      have small : ∀ z, 0 ≤ z → z ≤ IntKind.u64.wrap n → into t z = wrap64 z := by
        intro z h0 h1
        rw [wrap_u64] at hn h1
        rcases type_cases ht ht' with rfl | rfl | rfl | rfl | rfl | rfl | rfl | rfl
        · simp [into] at hn ⊢; unfold wrap64; omega
        · simp [into] at hn ⊢; unfold wrap64; omega
        · simp [into] at hn ⊢; unfold wrap64; omega
        · rfl
        iterate 4 omega
      cases full with
      | true =>
        have hcm := hfull rfl
        refine ⟨0, ?_, by omega, by omega, by simp [h1]⟩
        have e : IntKind.u64.wrap n / 2 ^ c = 0 := by
          apply Int.ediv_eq_zero_of_lt hX.1
          rw [wrap_u64] at hn ⊢
          rcases type_cases ht ht' with rfl | rfl | rfl | rfl | rfl | rfl | rfl | rfl
          · rw [show c = 8 from by simp [ibits] at hcm; omega]; simp [into] at hn; omega
          · rw [show c = 16 from by simp [ibits] at hcm; omega]; simp [into] at hn; omega
          · rw [show c = 32 from by simp [ibits] at hcm; omega]; simp [into] at hn; omega
          · rw [show c = 64 from by simp [ibits] at hcm; omega]; simp; omega
          iterate 4 omega
        rw [e, into_zero]; simp [wrap64]
      | false =>
        obtain ⟨e, b0, b1, b2⟩ := hpart rfl
        refine ⟨IntKind.u64.wrap n / 2 ^ c, by rw [small _ hd.1 hd.2], hd.1, by omega, ?_⟩
        simp only [Bool.false_eq_true, if_false, show ¬ ((18 : Int) = 17) from by decide, h1, Option.bind_some]
        rw [if_pos (hu b).1, b2, shr_down .u64 rfl _ _ b0 (by omega), show b.toNat = c from by omega]
end Go.Proofs.Ytajlomhnednghaa.R
/- The law FnExactBinary answers true: program and reference do a mark with two kids alike. Conditions: none. -/
namespace Go.Proofs.Ytajlomhnednghaa.Pure
open Go.RowKit Go.Proofs.Ytajlomhnednghaa.R Go.Proofs.Ytajlomhnednghaa.Arith Go.Proofs.YtajlomhnednghaaW.PrintWords Go.Proofs.YtajlomhnednghaaW.PrintLast Go.Proofs.YtajlomhnednghaaW.PrintMore
set_option linter.unusedVariables false
set_option linter.unusedSimpArgs false
theorem or_bits {a b : Int} (ha : a = 0 ∨ a = 1) (hb : b = 0 ∨ b = 1) : (Go.bits .or .i64 a b == 1) = (a == 1 || b == 1) := by
  rcases ha with rfl | rfl <;> rcases hb with rfl | rfl <;> decide
theorem and_bits {a b : Int} (ha : a = 0 ∨ a = 1) (hb : b = 0 ∨ b = 1) : (Go.bits .and .i64 a b == 1) = (a == 1 && b == 1) := by
  rcases ha with rfl | rfl <;> rcases hb with rfl | rfl <;> decide
theorem bits_range (op : BinOp) (x y : Int) : 0 ≤ Go.bits op .u64 x y ∧ Go.bits op .u64 x y < 18446744073709551616 := u64_range _
theorem into_both (q : Nat) (t z : Int) (h0 : 0 ≤ z) (h1 : z < 18446744073709551616) : spec_l4Num.f (q + 2) t z = some (t, into t z, ⟨#[]⟩) ∧ impl_into.f (q + 2) z t = some (into t z) := ⟨num_some q t z h0 h1, implInto q t z h0 h1⟩
theorem binary_same (op t n : Int) (s : ByteArray) (u m : Int) (s' : ByteArray) (hn : -9223372036854775808 ≤ n ∧ n ≤ 9223372036854775807) (hm : -9223372036854775808 ≤ m ∧ m ≤ 9223372036854775807) :
    ∃ r, spec_Binary.f 100 op t n s u m s' = some r ∧ impl_Binary.f 100 op t n s u m s' = some r := by
  have hu := u64_range
  unfold spec_Binary.f impl_Binary.f
  rw [specValid 98, implValid 98, specValid 98, implValid 98]
  simp only [Option.bind_some]
  have none_ : ∀ a b c d e f, spec_Binary.j0 100 op true a b c d e f = some (0, 0, ⟨#[]⟩, ⟨#[116, 121, 112, 101]⟩) ∧ impl_Binary.j0 100 op true a b c d e f = some (0, 0, ⟨#[]⟩, ⟨#[116, 121, 112, 101]⟩) := by
    intro a b c d e f
    rw [spec_Binary.j0, impl_Binary.j0]
    exact ⟨rfl, rfl⟩
  by_cases v1 : valid t n s = true
  · by_cases v2 : valid u m s' = true
    · rw [if_pos v1, if_pos v1, if_pos v2, if_pos v2]
      obtain ⟨t1, t10⟩ := valid_type v1
      by_cases o1 : op < 1
      · rw [if_pos o1, bin_type_out 95 op t u t1 t10 (.inl o1)]
        simp only [Option.bind_some]
        exact ⟨_, (none_ _ _ _ _ _ _).1, (none_ _ _ _ _ _ _).2⟩
      · by_cases o18 : op > 18
        · rw [if_neg o1, if_pos o18, bin_type_out 95 op t u t1 t10 (.inr o18)]
          simp only [Option.bind_some]
          exact ⟨_, (none_ _ _ _ _ _ _).1, (none_ _ _ _ _ _ _).2⟩
        · obtain ⟨r, e1, e2, hr⟩ := bin_type 95 op t u t1 t10 (by omega) (by omega)
          rw [if_neg o1, if_neg o18, e1, e2]
          simp only [Option.bind_some]
          by_cases r0 : r = 0
          · subst r0
            exact ⟨_, (none_ _ _ _ _ _ _).1, (none_ _ _ _ _ _ _).2⟩
          · rw [show (r == 0) = false from by simp [r0]]
            obtain ⟨rfl, hops⟩ := hr r0
            rw [spec_Binary.j0, impl_Binary.j0]
            simp only [Bool.false_eq_true, if_false]
            have ops : op = 1 ∨ op = 2 ∨ op = 3 ∨ op = 4 ∨ op = 5 ∨ op = 6 ∨ op = 7 ∨ op = 8 ∨ op = 9 ∨ op = 10 ∨ op = 11 ∨ op = 12 ∨ op = 13 ∨ op = 14 ∨ op = 15 ∨ op = 16 ∨ op = 17 ∨ op = 18 := by omega
            -- a number or a text or a bool
            have nums : 3 ≤ t → n = into t (IntKind.u64.wrap n) ∧ m = into t (IntKind.u64.wrap m) ∧ s.toList = [] ∧ s'.toList = [] := fun h3 => by
              have a := valid_into v1 (by omega) (by omega)
              have b := valid_into v2 (by omega) (by omega)
              exact ⟨a.2.2.1, b.2.2.1, a.2.2.2, b.2.2.2⟩
            have eq_ : (n == m && (s.toList == s'.toList)) = (if t = 2 then (s.toList == s'.toList) else (n == m)) := by
              by_cases t2 : t = 2
              · subst t2
                have a := (valid_text v1).1
                have b := (valid_text v2).1
                subst a b
                simp
              · rw [if_neg t2]
                have e : s.toList = [] ∧ s'.toList = [] := by
                  by_cases t1' : t = 1
                  · subst t1'; exact ⟨(valid_bool v1).2, (valid_bool v2).2⟩
                  · have := nums (by omega); exact ⟨this.2.2.1, this.2.2.2⟩
                rw [e.1, e.2]; simp
            rcases ops with rfl | rfl | rfl | rfl | rfl | rfl | rfl | rfl | rfl | rfl | rfl | rfl | rfl | rfl | rfl | rfl | rfl | rfl
            · -- or
              have ht : t = 1 := by omega
              subst ht
              have a := (valid_bool v1).1
              have b := (valid_bool v2).1
              simp only [if_true]
              rw [or_bits a b]
              rcases a with rfl | rfl <;> rcases b with rfl | rfl <;> simp [spec_l4Bool.f, impl_truth.f]
            · have ht : t = 1 := by omega
              subst ht
              have a := (valid_bool v1).1
              have b := (valid_bool v2).1
              simp only [if_true, show ¬ ((2 : Int) = 1) from by decide, if_false]
              rw [and_bits a b]
              rcases a with rfl | rfl <;> rcases b with rfl | rfl <;> simp [spec_l4Bool.f, impl_truth.f]
            · -- same
              obtain ⟨o, _, l, e, hc, _, _, _⟩ := order_some 98 t n m s s' t10
              have he : e = (if t = 2 then (s.toList == s'.toList) else (n == m)) := by
                unfold spec_l4Compare.f at hc
                by_cases t2 : t = 2
                · rw [if_pos t2] at hc ⊢; simp at hc; exact hc.2.symm
                · rw [if_neg t2] at hc ⊢
                  cases h : spec_l4Less.f t n m with
                  | none => rw [h] at hc; simp at hc
                  | some v => rw [h] at hc; simp at hc; exact hc.2.symm
              simp only [show ¬ ((3 : Int) = 1) from by decide, show ¬ ((3 : Int) = 2) from by decide, if_false, if_true]
              rw [spec_Binary.j1]
              simp only [spec_l4Order.f, hc, Option.bind_some, beq_self_eq_true, if_true, Bool.true_and]
              rw [eq_, ← he, truth_same]
              obtain ⟨r, hr⟩ := truth_some e
              rw [hr]
              exact ⟨_, rfl, rfl⟩
            · -- other
              obtain ⟨o, _, l, e, hc, _, _, _⟩ := order_some 98 t n m s s' t10
              have he : e = (if t = 2 then (s.toList == s'.toList) else (n == m)) := by
                unfold spec_l4Compare.f at hc
                by_cases t2 : t = 2
                · rw [if_pos t2] at hc ⊢; simp at hc; exact hc.2.symm
                · rw [if_neg t2] at hc ⊢
                  cases h : spec_l4Less.f t n m with
                  | none => rw [h] at hc; simp at hc
                  | some v => rw [h] at hc; simp at hc; exact hc.2.symm
              simp only [show ¬ ((4 : Int) = 1) from by decide, show ¬ ((4 : Int) = 2) from by decide, show ¬ ((4 : Int) = 3) from by decide, if_false, if_true]
              rw [spec_Binary.j1]
              simp only [spec_l4Order.f, hc, Option.bind_some, beq_self_eq_true, if_true, show ¬ ((4 : Int) = 3) from by decide, if_false, Bool.not_true, Bool.false_or]
              rw [← Bool.not_and, eq_, ← he, truth_same]
              obtain ⟨r, hr⟩ := truth_some (!e)
              rw [hr]
              exact ⟨_, rfl, rfl⟩
            · obtain ⟨o, ho, l, e, hc, h1, h2, h3⟩ := order_some 98 t n m s s' t10
              simp only [show ¬ ((5 : Int) = 1) from by decide, show ¬ ((5 : Int) = 2) from by decide, show ¬ ((5 : Int) = 3) from by decide, show ¬ ((5 : Int) = 4) from by decide, if_false, if_true]
              rw [spec_Binary.j1]
              rw [show impl_order.f 99 t n s t m s' = some o from ho]
              simp only [spec_l4Order.f, hc, Option.bind_some, beq_self_eq_true, if_true, show ¬ ((5 : Int) = 3) from by decide, show ¬ ((5 : Int) = 4) from by decide, if_false]
              rw [show decide (o < 0) = l from by rw [Bool.eq_iff_iff]; simpa using h1, truth_same]
              obtain ⟨r, hr⟩ := truth_some l
              rw [hr]
              exact ⟨_, rfl, rfl⟩
            · obtain ⟨o, ho, l, e, hc, h1, h2, h3⟩ := order_some 98 t n m s s' t10
              simp only [show ¬ ((6 : Int) = 1) from by decide, show ¬ ((6 : Int) = 2) from by decide, show ¬ ((6 : Int) = 3) from by decide, show ¬ ((6 : Int) = 4) from by decide, show ¬ ((6 : Int) = 5) from by decide, if_false, if_true]
              rw [spec_Binary.j1]
              rw [show impl_order.f 99 t n s t m s' = some o from ho]
              simp only [spec_l4Order.f, hc, Option.bind_some, beq_self_eq_true, if_true, show ¬ ((6 : Int) = 3) from by decide, show ¬ ((6 : Int) = 4) from by decide, show ¬ ((6 : Int) = 5) from by decide, if_false]
              have hd : decide (o ≤ 0) = (l || e) := by
                cases l <;> cases e <;> simp at h1 h2 h3 ⊢ <;> omega
              rw [hd, truth_same]
              obtain ⟨r, hr⟩ := truth_some (l || e)
              rw [hr]
              cases l with
              | true =>
                simp only [Bool.true_or] at hr
                simp only [if_true, Option.bind_some, hr]
                exact ⟨_, rfl, rfl⟩
              | false =>
                simp only [Bool.false_or] at hr
                simp only [Bool.false_eq_true, if_false, Option.bind_some, hr]
                exact ⟨_, rfl, rfl⟩
            · obtain ⟨o, ho, l, e, hc, h1, h2, h3⟩ := order_some 98 t n m s s' t10
              simp only [show ¬ ((7 : Int) = 1) from by decide, show ¬ ((7 : Int) = 2) from by decide, show ¬ ((7 : Int) = 3) from by decide, show ¬ ((7 : Int) = 4) from by decide, show ¬ ((7 : Int) = 5) from by decide, show ¬ ((7 : Int) = 6) from by decide, if_false, if_true]
              rw [spec_Binary.j1]
              rw [show impl_order.f 99 t n s t m s' = some o from ho]
              simp only [spec_l4Order.f, hc, Option.bind_some, beq_self_eq_true, if_true, show ¬ ((7 : Int) = 3) from by decide, show ¬ ((7 : Int) = 4) from by decide, show ¬ ((7 : Int) = 5) from by decide, show ¬ ((7 : Int) = 6) from by decide, if_false]
              have hd : decide (o > 0) = (!l && !e) := by
                cases l <;> cases e <;> simp at h1 h2 h3 ⊢ <;> omega
              rw [hd, truth_same]
              obtain ⟨r, hr⟩ := truth_some (!l && !e)
              rw [hr]
              cases l with
              | true =>
                simp only [Bool.not_true, Bool.false_and] at hr
                simp only [if_true, Option.bind_some, hr]
                exact ⟨_, rfl, rfl⟩
              | false =>
                simp only [Bool.not_false, Bool.true_and] at hr
                simp only [Bool.false_eq_true, if_false, Option.bind_some, hr]
                exact ⟨_, rfl, rfl⟩
            · obtain ⟨o, ho, l, e, hc, h1, h2, h3⟩ := order_some 98 t n m s s' t10
              simp only [show ¬ ((8 : Int) = 1) from by decide, show ¬ ((8 : Int) = 2) from by decide, show ¬ ((8 : Int) = 3) from by decide, show ¬ ((8 : Int) = 4) from by decide, show ¬ ((8 : Int) = 5) from by decide, show ¬ ((8 : Int) = 6) from by decide, show ¬ ((8 : Int) = 7) from by decide, if_false, if_true]
              rw [spec_Binary.j1]
              rw [show impl_order.f 99 t n s t m s' = some o from ho]
              simp only [spec_l4Order.f, hc, Option.bind_some, beq_self_eq_true, if_true, show ¬ ((8 : Int) = 3) from by decide, show ¬ ((8 : Int) = 4) from by decide, show ¬ ((8 : Int) = 5) from by decide, show ¬ ((8 : Int) = 6) from by decide, show ¬ ((8 : Int) = 7) from by decide, if_false]
              have hd : decide (o ≥ 0) = (!l) := by
                cases l <;> cases e <;> simp at h1 h2 h3 ⊢ <;> omega
              rw [hd, truth_same]
              obtain ⟨r, hr⟩ := truth_some (!l)
              rw [hr]
              exact ⟨_, rfl, rfl⟩
            · -- plus
              simp only [Int.reduceEq, Int.reduceBEq, if_false]
              rw [spec_Binary.j1]
              simp only [Int.reduceEq, Bool.false_eq_true, if_false, if_true]
              by_cases t2 : t = 2
              · subst t2
                have a := (valid_text v1).2
                have b := (valid_text v2).2
                simp only [if_true]
                rw [show wrap64 ((s.size : Int) + (s'.size : Int)) = (s.size : Int) + (s'.size : Int) from by unfold wrap64; omega, if_pos (show s.size + s'.size ≤ 9223372036854775807 by omega), if_pos (show s.size + s'.size ≤ 9223372036854775807 by omega)]
                rw [show (((s ++ s').size : Nat) : Int) = (s.size : Int) + (s'.size : Int) from by rw [ByteArray.size_append]; omega]
                by_cases big : (s.size : Int) + (s'.size : Int) > 3000
                · rw [if_pos big, if_pos big]; exact ⟨_, rfl, rfl⟩
                · rw [if_neg big, if_neg big]; exact ⟨_, rfl, rfl⟩
              · rw [if_neg t2, if_neg t2, num_some 96 t _ (hu _).1 (hu _).2, implInto 97 t _ (hu _).1 (hu _).2]
                exact ⟨_, rfl, rfl⟩
            · have h3 : 3 ≤ t := by omega
              simp only [Int.reduceEq, Int.reduceBEq, if_false]
              rw [spec_Binary.j1]
              simp only [Int.reduceEq, Bool.false_eq_true, if_false, if_true]
              rw [if_neg (show ¬ t = 2 by omega), num_some 96 t _ (hu _).1 (hu _).2, implInto 97 t _ (hu _).1 (hu _).2]
              exact ⟨_, rfl, rfl⟩
            · have h3 : 3 ≤ t := by omega
              simp only [Int.reduceEq, Int.reduceBEq, if_false]
              rw [spec_Binary.j1]
              simp only [Int.reduceEq, Bool.false_eq_true, if_false, if_true]
              rw [if_neg (show ¬ t = 2 by omega), num_some 96 t _ (bits_range _ _ _).1 (bits_range _ _ _).2, implInto 97 t _ (bits_range _ _ _).1 (bits_range _ _ _).2]
              exact ⟨_, rfl, rfl⟩
            · have h3 : 3 ≤ t := by omega
              simp only [Int.reduceEq, Int.reduceBEq, if_false]
              rw [spec_Binary.j1]
              simp only [Int.reduceEq, Bool.false_eq_true, if_false, if_true]
              rw [if_neg (show ¬ t = 2 by omega), num_some 96 t _ (bits_range _ _ _).1 (bits_range _ _ _).2, implInto 97 t _ (bits_range _ _ _).1 (bits_range _ _ _).2]
              exact ⟨_, rfl, rfl⟩
            · have h3 : 3 ≤ t := by omega
              simp only [Int.reduceEq, Int.reduceBEq, if_false]
              rw [spec_Binary.j1]
              simp only [Int.reduceEq, Bool.false_eq_true, if_false, if_true]
              rw [if_neg (show ¬ t = 2 by omega), num_some 96 t _ (hu _).1 (hu _).2, implInto 97 t _ (hu _).1 (hu _).2]
              exact ⟨_, rfl, rfl⟩
            · have h3 : 3 ≤ t := by omega
              simp only [Int.reduceEq, Int.reduceBEq, if_false, if_true]
              rw [spec_Binary.j1, impl_Binary.j1]
              simp only [Int.reduceEq, Bool.false_eq_true, if_false, if_true]
              rw [if_neg (show ¬ t = 2 by omega)]
              by_cases m0 : m = 0
              · subst m0
                simp only [if_true, show IntKind.u64.wrap 0 = 0 from by decide]
                exact ⟨_, rfl, rfl⟩
              · obtain ⟨x, y, e1, x0, x1, y0, y1, e2, e3⟩ := div_same t n m h3 t10 hn hm m0 95 14 s s'
                rw [if_neg m0, if_neg (show ¬ IntKind.u64.wrap m = 0 by rw [wrap_u64]; omega), show spec_l4Divide.f 98 t n m = _ from e1, e2]
                simp only [Option.bind_some, Int.reduceEq, if_false, if_true]
                rw [implInto 96 t _ x0 x1]
                exact ⟨_, rfl, rfl⟩
            · have h3 : 3 ≤ t := by omega
              simp only [Int.reduceEq, Int.reduceBEq, if_false, if_true]
              rw [spec_Binary.j1, impl_Binary.j1]
              simp only [Int.reduceEq, Bool.false_eq_true, if_false, if_true]
              rw [if_neg (show ¬ t = 2 by omega)]
              by_cases m0 : m = 0
              · subst m0
                simp only [if_true, show IntKind.u64.wrap 0 = 0 from by decide]
                exact ⟨_, rfl, rfl⟩
              · obtain ⟨x, y, e1, x0, x1, y0, y1, e2, e3⟩ := div_same t n m h3 t10 hn hm m0 95 15 s s'
                rw [if_neg m0, if_neg (show ¬ IntKind.u64.wrap m = 0 by rw [wrap_u64]; omega), show spec_l4Divide.f 98 t n m = _ from e1, e3 (by decide)]
                simp only [Option.bind_some, Int.reduceEq, if_false, if_true]
                rw [implInto 96 t _ y0 y1]
                exact ⟨_, rfl, rfl⟩
            · have h3 : 3 ≤ t := by omega
              simp only [Int.reduceEq, Int.reduceBEq, if_false]
              rw [spec_Binary.j1]
              simp only [Int.reduceEq, Bool.false_eq_true, if_false, if_true]
              rw [if_neg (show ¬ t = 2 by omega), num_some 96 t _ (bits_range _ _ _).1 (bits_range _ _ _).2, implInto 97 t _ (bits_range _ _ _).1 (bits_range _ _ _).2]
              exact ⟨_, rfl, rfl⟩
            · have h3 : 3 ≤ t := by omega
              simp only [Int.reduceEq, Int.reduceBEq, if_false]
              rw [spec_Binary.j1, impl_Binary.j1]
              simp only [Int.reduceEq, Bool.false_eq_true, if_false, if_true]
              rw [if_neg (show ¬ t = 2 by omega)]
              obtain ⟨z, e1, z0, z1, e2⟩ := shift_same 18 t n m s s' h3 t10 (nums h3).1 hm 17 (by omega)
              rw [show spec_l4Shift.f 98 17 t n m = _ from e1, show impl_shift.f 98 17 t n s t m s' = _ from e2]
              simp only [Option.bind_some]
              rw [implInto 96 t _ z0 z1]
              exact ⟨_, rfl, rfl⟩
            · have h3 : 3 ≤ t := by omega
              simp only [Int.reduceEq, Int.reduceBEq, if_false]
              rw [spec_Binary.j1, impl_Binary.j1]
              simp only [Int.reduceEq, Bool.false_eq_true, if_false, if_true]
              rw [if_neg (show ¬ t = 2 by omega)]
              obtain ⟨z, e1, z0, z1, e2⟩ := shift_same 18 t n m s s' h3 t10 (nums h3).1 hm 18 (by omega)
              rw [show spec_l4Shift.f 98 18 t n m = _ from e1, show impl_shift.f 98 18 t n s t m s' = _ from e2]
              simp only [Option.bind_some]
              rw [implInto 96 t _ z0 z1]
              exact ⟨_, rfl, rfl⟩
    · rw [if_pos v1, if_pos v1, if_neg v2, if_neg v2]
      exact ⟨_, (none_ _ _ _ _ _ _).1, (none_ _ _ _ _ _ _).2⟩
  · rw [if_neg v1, if_neg v1]
    exact ⟨_, (none_ _ _ _ _ _ _).1, (none_ _ _ _ _ _ _).2⟩
theorem wf64 {n : Int} (h : (Lit.int .i64 n).wf = true) : -9223372036854775808 ≤ n ∧ n ≤ 9223372036854775807 := by
  simp only [Lit.wf, IntKind.min, IntKind.max, IntKind.signed, IntKind.bits, Bool.and_eq_true, decide_eq_true_eq, if_true] at h
  omega
theorem FnExactBinary (x0 : Int) (x1_0 : Int) (x1_1 : Int) (x1_2 : ByteArray) (x2_0 : Int) (x2_1 : Int) (x2_2 : ByteArray) (hg0 : (Lit.int .i64 x0).wf = true) (hg1 : (Lit.int .i64 x1_0).wf = true ∧ (Lit.int .i64 x1_1).wf = true ∧ x1_2.size ≤ maxLen) (hg2 : (Lit.int .i64 x2_0).wf = true ∧ (Lit.int .i64 x2_1).wf = true ∧ x2_2.size ≤ maxLen) : ∃ k, laws_FnExactBinary.f k x0 x1_0 x1_1 x1_2 x2_0 x2_1 x2_2 = some true := by
  refine ⟨100, ?_⟩
  obtain ⟨⟨r0, r1, r2, r3⟩, h1, h2⟩ := binary_same x0 x1_0 x1_1 x1_2 x2_0 x2_1 x2_2 (wf64 hg1.2.1) (wf64 hg2.2.1)
  have sz : ∀ a b c d, ∃ n, laws_szValue.f a b c d = some n := by
    intro a b c d
    unfold laws_szValue.f
    split <;> exact ⟨_, rfl⟩
  unfold laws_FnExactBinary.f
  obtain ⟨n1, e1⟩ := sz x1_0 x1_1 x1_2 1048576
  rw [e1]; simp only [Option.bind_some]
  split
  · rfl
  · obtain ⟨n2, e2⟩ := sz x2_0 x2_1 x2_2 n1
    rw [e2]; simp only [Option.bind_some]
    split
    · rfl
    · simp only [laws_toValue.f, Option.bind_some, h1, h2, laws_eqValue.f, if_true]
end Go.Proofs.Ytajlomhnednghaa.Pure
/- The row of the law FnExactBinary, out of its pure statement and the walk of its text. Conditions: none. -/
namespace Go.Proofs.Ytajlomhnednghaa.fnExactBinary
open Go.ChangeShapes Go.WideShapes Go.ChangeAt Go.RowKit Go.Proofs.Ytajlomhnednghaa.Open Go.Proofs.Ytajlomhnednghaa.R Go.Proofs.YtajlomhnednghaaW.PrintWords
set_option linter.unusedVariables false
theorem own : ownKnob Try.prog.godebug = none := by kernel_rfl
theorem laidOut : laidOutB Try.prog = true := by kernel_rfl
theorem cells2 : Try.prog.cellsOf 2 = 1 := by kernel_rfl
theorem cells3 : Try.prog.cellsOf 3 = 1 := by kernel_rfl
theorem cells9 : Try.prog.cellsOf 9 = 1 := by kernel_rfl
theorem cells31 : Try.prog.cellsOf 31 = 3 := by kernel_rfl
theorem open_arg1 : Opens Try.prog 31 (Kd.pair (Kd.int .i64) (Kd.pair (Kd.int .i64) Kd.string)) (fun x => (Lit.int .i64 x.1).wf = true ∧ (Lit.int .i64 x.2.1).wf = true ∧ x.2.2.size ≤ maxLen) :=
  opens_struct Try.underlying31 cells31 (fields_cons (off := 0) (off' := 1) 3 (d := (Kd.int .i64)) (by rfl) (by rfl) cells3 rfl (opens_int Try.underlying3) (fields_cons (off := 1) (off' := 2) 2 (d := (Kd.int .i64)) (by rfl) (by rfl) cells2 rfl (opens_int Try.underlying2) (fields_one (off := 2) 9 (d := Kd.string) (by rfl) (by rfl) cells9 (opens_string Try.underlying9))))
theorem open_arg2 : Opens Try.prog 31 (Kd.pair (Kd.int .i64) (Kd.pair (Kd.int .i64) Kd.string)) (fun x => (Lit.int .i64 x.1).wf = true ∧ (Lit.int .i64 x.2.1).wf = true ∧ x.2.2.size ≤ maxLen) :=
  opens_struct Try.underlying31 cells31 (fields_cons (off := 0) (off' := 1) 3 (d := (Kd.int .i64)) (by rfl) (by rfl) cells3 rfl (opens_int Try.underlying3) (fields_cons (off := 1) (off' := 2) 2 (d := (Kd.int .i64)) (by rfl) (by rfl) cells2 rfl (opens_int Try.underlying2) (fields_one (off := 2) 9 (d := Kd.string) (by rfl) (by rfl) cells9 (opens_string Try.underlying9))))
set_option maxRecDepth 100000 in
set_option maxHeartbeats 2000000 in
theorem lifted (os : Os) (started : os.Started) (H : Type) (enc : TypeId × Value → H) :
    ReturnsInHanded {} Try.checked os 14 .any (Rows.fnExactBinarySpec.pre6 enc Try.prog Try.f14 Rows.fnExactBinaryRow.domain false) (Rows.fnExactBinarySpec.post enc Try.prog Try.f14 false true false false) := by
  refine returnsInHanded_of_change_sized (C := Try.checked) own started (by kernel_rfl) Try.func14
    (ChangeSpec.witness6 (enc := enc) (C := Try.checked) false ⟨#[], #[.int .i64 0, .agg #[.int .i64 0, .int .i64 0, .string ByteArray.empty], .agg #[.int .i64 0, .int .i64 0, .string ByteArray.empty]], []⟩ 8 (by kernel_rfl) (by kernel_rfl) (by kernel_rfl) (by kernel_rfl)) ?_
  intro W base args ds gs before hval0 hW hcnd hsz0 _
  have hval : ∀ (j : Nat) t v, Try.f14.params[j]? = some t → args[j]? = some v → Value.okWide Try.prog W .any base t v := hval0
  have hW' := hW
  obtain ⟨p, q, hA0, hV, rfl, hfz, hnd⟩ := hW
  have hA : DataW.TrodAll enc Try.prog W 0 (fun _ => true) true Try.f14.params.toList args.toList ds p := hA0
  rw [Try.params14] at hA hval
  obtain ⟨v0, vs0, d0, ds0, p0, q0, hargs, rfl, rfl, h0, r0⟩ := trodAll_cons hA
  obtain ⟨v1, vs1, d1, ds1, p1, q1, rfl, rfl, rfl, h1, r1⟩ := trodAll_cons r0
  obtain ⟨v2, vs2, d2, ds2, p2, q2, rfl, rfl, rfl, h2, r2⟩ := trodAll_cons r1
  obtain ⟨rfl, rfl, rfl⟩ := trodAll_nil r2
  obtain rfl : args = #[v0, v1, v2] := by cases args; simp_all
  obtain ⟨rfl, rfl⟩ := trodVars_none hV
  have k0 := h0
  have lt0 : ∀ x ∈ p0, x.block < W.heap.size := by obtain ⟨m, hm⟩ := k0; exact DataW.trod_lt m _ _ _ hm
  obtain ⟨x0, rfl, rfl, rfl, hg0⟩ := open_int Try.underlying3 (hval 0 3 v0 rfl rfl) h0
  have k1 := h1
  have lt1 : ∀ x ∈ p1, x.block < W.heap.size := by obtain ⟨m, hm⟩ := k1; exact DataW.trod_lt m _ _ _ hm
  obtain ⟨cs1, rfl, _⟩ := okWide_struct Try.underlying31 (hval 1 31 v1 rfl rfl)
  obtain ⟨⟨x1_0, x1_1, x1_2⟩, hg1, hK1⟩ := opens_arg open_arg1 h1
  obtain ⟨_, _, e1, rfl, ⟨_, _, rfl, rfl, rfl⟩⟩ := hK1
  obtain rfl : cs1 = #[.int .i64 x1_0, .int .i64 x1_1, .string x1_2] := by apply Array.toList_inj.1; exact e1
  have k2 := h2
  have lt2 : ∀ x ∈ p2, x.block < W.heap.size := by obtain ⟨m, hm⟩ := k2; exact DataW.trod_lt m _ _ _ hm
  obtain ⟨cs2, rfl, _⟩ := okWide_struct Try.underlying31 (hval 2 31 v2 rfl rfl)
  obtain ⟨⟨x2_0, x2_1, x2_2⟩, hg2, hK2⟩ := opens_arg open_arg2 h2
  obtain ⟨_, _, e2, rfl, ⟨_, _, rfl, rfl, rfl⟩⟩ := hK2
  obtain rfl : cs2 = #[.int .i64 x2_0, .int .i64 x2_1, .string x2_2] := by apply Array.toList_inj.1; exact e2
  obtain ⟨k, hk⟩ := Pure.FnExactBinary x0 x1_0 x1_1 x1_2 x2_0 x2_1 x2_2 hg0 hg1 hg2
  refine (laws_FnExactBinary.calls (k := k)  (r := true) (w := W) (hrt := rfl) (h := hk)).mono fun e W' ⟨he, bel0⟩ => ?_
  have bel : Below W.heap.size W W' := bel0
  subst he
  exact ⟨_, rfl, _, _, _, [], _, [], hW', trodAll_mk1 (shut_bool Try.underlying4 _), (trodAll_cons_mk (Below.trod laidOut (by kernel_rfl) (of_decide_eq_true (by kernel_rfl)) k0 bel lt0) (trodAll_cons_mk (Below.trod laidOut (by kernel_rfl) (of_decide_eq_true (by kernel_rfl)) k1 bel lt1) (trodAll_cons_mk (Below.trod laidOut (by kernel_rfl) (of_decide_eq_true (by kernel_rfl)) k2 bel lt2) trodAll_mk0))), rfl, bel.frame _, fun h => by cases h⟩
theorem over : Rows.fnExactBinaryRow.holds Try.pinned (OpenSpec.ofChange Rows.fnExactBinarySpec) :=
  OpenClaim.holds_of_wide 14 Try.f14 rfl rfl rfl rfl rfl rfl rfl ⟨rfl, rfl, rfl, rfl, rfl⟩ rfl rfl rfl rfl rfl (by kernel_rfl) Try.func14 (by kernel_rfl)
    (of_decide_eq_true (by kernel_rfl)) (by unfold Func.isWrapper; first | (rw [if_pos (by decide +kernel)]; kernel_rfl) | (rw [if_neg (by decide +kernel)]; exact ⟨rfl, rfl⟩))
    (fun os started H enc _ => lifted os started H enc)
end Go.Proofs.Ytajlomhnednghaa.fnExactBinary
namespace Go.Proofs.Ytajlomhnednghaa
/-- The law FnExactBinary: for every input it returns true. -/
theorem fnExactBinary_holds : Rows.FnExactBinarySaid := fnExactBinary.over
#print axioms fnExactBinary_holds
end Go.Proofs.Ytajlomhnednghaa
