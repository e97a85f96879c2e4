/- Texts of this session, put together (wip/tools/pack.py): Rx83, Rx84. Conditions: none. -/
import Derived.Test.YtajlomhnednghaaBinam1
import Derived.Test.YtajlomhnednghaaBinam4
namespace Go.Proofs.Ytajlomhnednghaa.R
open Go.RowKit Go.Proofs.YtajlomhnednghaaW.PrintWords Go.Proofs.YtajlomhnednghaaW.PrintLast Go.Proofs.YtajlomhnednghaaW.PrintMore
attribute [local go_sem] max2_int min2_int max_two min_two max_three min_three max_four min_four   -- for this text's walks alone
set_option linter.unusedVariables false
set_option linter.unusedSimpArgs false

/-! ### spec_l4Divide: function 100 -/
def spec_l4Divide.j0 : Nat → Int → Bool → Int → Int → Option (Int × Int × ByteArray × Int × Int × ByteArray)
  | 0, _, _, _, _ => none
  | k + 1, x0, x9, x12, x13 => if x9 = true then ((spec_l4Num.f k x0 x12).bind fun bt560 => ((spec_l4Num.f k x0 (IntKind.u64.wrap (-x13))).bind fun bt563 => (some (bt560.1, bt560.2.1, bt560.2.2, bt563.1, bt563.2.1, bt563.2.2)))) else ((spec_l4Num.f k x0 x12).bind fun bt566 => ((spec_l4Num.f k x0 x13).bind fun bt569 => (some (bt566.1, bt566.2.1, bt566.2.2, bt569.1, bt569.2.1, bt569.2.2))))
def spec_l4Divide.f (k : Nat) (a0 : Int) (a1 : Int) (a2 : Int) : Option (Int × Int × ByteArray × Int × Int × ByteArray) := (spec_l4Abs.f a0 a1).bind fun bt556 => ((spec_l4Abs.f a0 a2).bind fun bt558 => (if bt558.1 = 0 then (none) else (if (bt556.2 != bt558.2) = true then (spec_l4Divide.j0 k a0 bt556.2 (IntKind.u64.wrap (-(IntKind.u64.wrap (Int.tdiv bt556.1 bt558.1)))) (Int.tmod bt556.1 bt558.1)) else (spec_l4Divide.j0 k a0 bt556.2 (IntKind.u64.wrap (Int.tdiv bt556.1 bt558.1)) (Int.tmod bt556.1 bt558.1)))))
theorem spec_l4Divide.mono_l : ∀ k, (∀ y0 y1 y2 y3, LeO (spec_l4Divide.j0 k y0 y1 y2 y3) (spec_l4Divide.j0 (k + 1) y0 y1 y2 y3))
  | 0 => fun _ _ _ _ r h => by simp [spec_l4Divide.j0] at h
  | k + 1 => by
    have ih0 := spec_l4Divide.mono_l k
    · intro y0 y1 y2 y3
      unfold spec_l4Divide.j0
      repeat' first
      | (with_reducible exact ih0 _ _ _ _)
      | (with_reducible exact spec_l4Num.mono _ _ _)
      | (with_reducible exact LeO.refl _)
      | (with_reducible exact LeO.none _)
      | (with_reducible refine LeO.ite ?_ ?_)
      | (with_reducible refine LeO.bind ?_ (fun _ => ?_))
      | exact ih0 _ _ _ _
      | exact spec_l4Num.mono _ _ _
      | exact LeO.none _
      | refine LeO.ite ?_ ?_
      | refine LeO.bind ?_ (fun _ => ?_)
theorem spec_l4Divide.mono : ∀ a0 a1 a2 k, LeO (spec_l4Divide.f k a0 a1 a2) (spec_l4Divide.f (k + 1) a0 a1 a2) := by
  intro a0 a1 a2 k
  have ih0 := spec_l4Divide.mono_l k
  unfold spec_l4Divide.f
  repeat' first
      | (with_reducible exact ih0 _ _ _ _)
      | (with_reducible exact spec_l4Num.mono _ _ _)
      | (with_reducible exact LeO.refl _)
      | (with_reducible exact LeO.none _)
      | (with_reducible refine LeO.ite ?_ ?_)
      | (with_reducible refine LeO.bind ?_ (fun _ => ?_))
      | exact ih0 _ _ _ _
      | exact spec_l4Num.mono _ _ _
      | exact LeO.none _
      | refine LeO.ite ?_ ?_
      | refine LeO.bind ?_ (fun _ => ?_)
set_option maxHeartbeats 8000000 in
set_option maxRecDepth 100000 in
theorem spec_l4Divide.calls (k : Nat) (a0 : Int) (a1 : Int) (a2 : Int) (r1 : Int) (r2 : Int) (r3 : ByteArray) (r4 : Int) (r5 : Int) (r6 : ByteArray) (w : World) (h : spec_l4Divide.f k a0 a1 a2 = some (r1, r2, r3, r4, r5, r6)) :
    Calls Try.prog 100 #[.int .i64 a0, .int .i64 a1, .int .i64 a2] w fun e w' => e = .returned (.tuple #[.agg #[.int .i64 r1, .int .i64 r2, .string r3], .agg #[.int .i64 r4, .int .i64 r5, .string r6]]) ∧ Below w.heap.size w w' := by
  have hu34 := Try.underlying34
  have HB := Aside0.mk (Below.refl w.heap.size w)
  have H : ((spec_l4Abs.f a0 a1).bind fun bt556 => ((spec_l4Abs.f a0 a2).bind fun bt558 => (if bt558.1 = 0 then (none) else (if (bt556.2 != bt558.2) = true then (spec_l4Divide.j0 k a0 bt556.2 (IntKind.u64.wrap (-(IntKind.u64.wrap (Int.tdiv bt556.1 bt558.1)))) (Int.tmod bt556.1 bt558.1)) else (spec_l4Divide.j0 k a0 bt556.2 (IntKind.u64.wrap (Int.tdiv bt556.1 bt558.1)) (Int.tmod bt556.1 bt558.1)))))) = some (r1, r2, r3, r4, r5, r6) := h
  clear h
  replace H := Option.bind_eq_some_iff.mp H
  obtain ⟨⟨t556, t557⟩, A40, H⟩ := H
  replace H : ((spec_l4Abs.f a0 a2).bind fun bt558 => (if bt558.1 = 0 then (none) else (if (t557 != bt558.2) = true then (spec_l4Divide.j0 k a0 t557 (IntKind.u64.wrap (-(IntKind.u64.wrap (Int.tdiv t556 bt558.1)))) (Int.tmod t556 bt558.1)) else (spec_l4Divide.j0 k a0 t557 (IntKind.u64.wrap (Int.tdiv t556 bt558.1)) (Int.tmod t556 bt558.1))))) = some (r1, r2, r3, r4, r5, r6) := H
  have A4 := Aside0.mk A40
  clear A40
  replace H := Option.bind_eq_some_iff.mp H
  obtain ⟨⟨t558, t559⟩, A50, H⟩ := H
  replace H : (if t558 = 0 then (none) else (if (t557 != t559) = true then (spec_l4Divide.j0 k a0 t557 (IntKind.u64.wrap (-(IntKind.u64.wrap (Int.tdiv t556 t558)))) (Int.tmod t556 t558)) else (spec_l4Divide.j0 k a0 t557 (IntKind.u64.wrap (Int.tdiv t556 t558)) (Int.tmod t556 t558)))) = some (r1, r2, r3, r4, r5, r6) := H
  have A5 := Aside0.mk A50
  clear A50
  by_cases c6 : t558 = 0
  · rw [if_pos c6] at H
    exact absurd H (by simp)
  · rw [if_neg c6] at H
    have c6b0 : (t558 == 0) = false := beq_eq_false_iff_ne.mpr c6
    have c6b1 : (t558 != 0) = true := bne_iff_ne.mpr c6
    have HC7 := Aside0.mk H
    clear H
    go_enter Try.func100, Try.ntmps100
    go_upto_if 34 with (first | ((with_reducible refine gate_dst (N := 6) rfl ?_); refine box_event ?hg (N := 6) ?hd (cs := #[.int .i64 0, .int .i64 0, .string (⟨#[]⟩ : ByteArray)]) (t := 34) ?hr ?_; (case hd => rfl); (case hg => rfl); (case hr => first | (go_simp; done) | (go_simp; rfl)); intro gb554 hg w8 hbox hb; have n0_ := Aside0.mk (below_step (by repeat (first | (with_reducible first | exact HB.out | apply below_alloc | apply pw_below_drewN | apply below_drew1) | exact HB.out)) hb); have n1_ := Aside0.mk (hbox); have n2_ := Aside0.mk ((by rw [hg]; exact (below_size (by repeat (first | (with_reducible first | exact HB.out | apply below_alloc | apply pw_below_drewN | apply below_drew1) | exact HB.out))) : w.heap.size ≤ gb554)); have n3_ := Aside0.mk ((by rw [hg]; exact (below_size (by repeat (first | (with_reducible first | exact HB.out | apply below_alloc | apply pw_below_drewN | apply below_drew1) | exact HB.out))) : w.heap.size ≤ gb554)); clear HB; have HB := n0_; have BK554 := n1_; have GW554 := n2_; have GE554 := n3_; clear n0_ n1_ n2_ n3_; clear hb hbox hg) | ((with_reducible refine gate_dst (N := 7) rfl ?_); refine box_event ?hg (N := 7) ?hd (cs := #[.int .i64 0, .int .i64 0, .string (⟨#[]⟩ : ByteArray)]) (t := 34) ?hr ?_; (case hd => rfl); (case hg => rfl); (case hr => first | (go_simp; done) | (go_simp; rfl)); intro gb555 hg w9 hbox hb; have n0_ := Aside0.mk (blk_below (g := gb554) (o := .cells #[.int .i64 0, .int .i64 0, .string (⟨#[]⟩ : ByteArray)] 34 (0, 0)) (by (with_reducible repeat (first | refine blk_drewN ?_ _ | refine blk_drew ?_ | refine blk_alloc ?_ _)); exact BK554.out) hb); have n1_ := Aside0.mk (below_step (by repeat (first | (with_reducible first | exact HB.out | apply below_alloc | apply pw_below_drewN | apply below_drew1 | refine below_set ?_ GE554.out) | exact HB.out)) hb); have n2_ := Aside0.mk (hbox); have n3_ := Aside0.mk ((by rw [hg]; exact (below_size (by repeat (first | (with_reducible first | exact HB.out | apply below_alloc | apply pw_below_drewN | apply below_drew1 | refine below_set ?_ GE554.out) | exact HB.out))) : w.heap.size ≤ gb555)); have n4_ := Aside0.mk ((by rw [hg]; exact (below_size (by repeat (first | (with_reducible first | exact HB.out | apply below_alloc | apply pw_below_drewN | apply below_drew1 | refine below_set ?_ GE554.out) | exact HB.out))) : w.heap.size ≤ gb555)); have n5_ := Aside0.mk ((by rw [hg]; exact Nat.ne_of_lt (blk_lt (g := gb554) (o := .cells #[.int .i64 0, .int .i64 0, .string (⟨#[]⟩ : ByteArray)] 34 (0, 0)) (by (with_reducible repeat (first | refine blk_drewN ?_ _ | refine blk_drew ?_ | refine blk_alloc ?_ _)); exact BK554.out)) : gb554 ≠ gb555)); have n6_ := Aside0.mk ((by rw [hg]; exact Nat.ne_of_gt (blk_lt (g := gb554) (o := .cells #[.int .i64 0, .int .i64 0, .string (⟨#[]⟩ : ByteArray)] 34 (0, 0)) (by (with_reducible repeat (first | refine blk_drewN ?_ _ | refine blk_drew ?_ | refine blk_alloc ?_ _)); exact BK554.out)) : gb555 ≠ gb554)); clear BK554; clear HB; have BK554 := n0_; have HB := n1_; have BK555 := n2_; have GW555 := n3_; have GE555 := n4_; have NB554_555 := n5_; have NB555_554 := n6_; clear n0_ n1_ n2_ n3_ n4_ n5_ n6_; clear hb hbox hg) | ((with_reducible refine gate_callee (f := 115) rfl ?_); refine goesL_ (some 17) rfl rfl Try.func115 (by kernel_rfl) rfl #[.int .i64 a0, .int .i64 a1] rfl (by (try simp only [List.map_toArray, List.map_cons, List.map_nil]); first | done | rfl | (simp only [List.length_drop, List.length_take]; rfl)) ?_; (with_reducible refine (spec_l4Abs.calls a0 a1 t556 t557 _ A4.out).mono ?_); rintro e w' ⟨rfl, ⟨nd, rfl⟩⟩; refine ⟨_, rfl, ?_⟩) | ((with_reducible refine gate_callee (f := 115) rfl ?_); refine goesL_ (some 23) rfl rfl Try.func115 (by kernel_rfl) rfl #[.int .i64 a0, .int .i64 a2] rfl (by (try simp only [List.map_toArray, List.map_cons, List.map_nil]); first | done | rfl | (simp only [List.length_drop, List.length_take]; rfl)) ?_; (with_reducible refine (spec_l4Abs.calls a0 a2 t558 t559 _ A5.out).mono ?_); rintro e w' ⟨rfl, ⟨nd, rfl⟩⟩; refine ⟨_, rfl, ?_⟩))
    (try simp only [Act.put, List.setIfInBounds_toArray, List.set_cons_zero, List.set_cons_succ])
    go_cut [12] (fun v12 wc => ∃ (kq : Nat) (x12_6 : Int), v12 = .int .u64 x12_6 ∧ Aside0 (spec_l4Divide.j0 kq a0 t557 x12_6 (Int.tmod t556 t558) = some (r1, r2, r3, r4, r5, r6)) ∧ Aside0 (kq ≤ k) ∧ Aside0 (wc.heap[gb554]? = some (.cells #[.int .i64 0, .int .i64 0, .string (⟨#[]⟩ : ByteArray)] 34 (0, 0))) ∧ Aside0 (wc.heap[gb555]? = some (.cells #[.int .i64 0, .int .i64 0, .string (⟨#[]⟩ : ByteArray)] 34 (0, 0))) ∧ Aside0 (Below w.heap.size w wc))
    case first =>
      have H := HC7.out
      clear HC7
      by_cases c10 : (t557 != t559) = true
      · rw [if_pos c10] at H
        have c10b0 : (t557 != t559) = true := c10
        (try (have c10b1 : decide (t557 = t559) = false := by simpa using c10))
        (try (have c10b2 : (t557 == t559) = false := by simpa using c10))
        (try (have c10b3 : ¬ (t557 = t559) := by simpa using c10))
        (try (have c10b4 : (!(t557 == t559)) = true := by (have h_ := c10; revert h_; cases t557 <;> cases t559 <;> simp)))
        clear c10
        (first | rw [c10b0] | (simp only [i64_w, i32_w]; rw [c10b0]) | rw [c10b4] | rw [c10b3] | skip)
        have H' := Aside0.mk H
        clear H
        go_wp2
        go_meet
        case rel => exact ⟨_, (IntKind.u64.wrap (-(IntKind.u64.wrap (Int.tdiv t556 t558)))), (by first | rfl | (simp; done) | (simp [*]; done)), H', ⟨by first | omega | exact Nat.le_refl _⟩, ⟨by (with_reducible repeat (first | refine blk_drewN ?_ _ | refine blk_drew ?_ | refine blk_alloc ?_ _)); exact BK554.out⟩, ⟨by (with_reducible repeat (first | refine blk_drewN ?_ _ | refine blk_drew ?_ | refine blk_alloc ?_ _)); exact BK555.out⟩, ⟨by repeat (first | (with_reducible first | exact HB.out | apply below_alloc | apply pw_below_drewN | apply below_drew1 | refine below_set ?_ GE554.out | refine below_set ?_ GE555.out) | exact HB.out)⟩⟩
      · rw [if_neg c10] at H
        have c10b0 : (t557 != t559) = false := by simpa using c10
        (try (have c10b1 : decide (t557 = t559) = true := by simpa using c10))
        (try (have c10b2 : (t557 == t559) = true := by simpa using c10))
        (try (have c10b3 : (!(t557 == t559)) = false := by (have h_ := c10; revert h_; cases t557 <;> cases t559 <;> simp)))
        clear c10
        (first | rw [c10b0] | (simp only [i64_w, i32_w]; rw [c10b0]) | rw [c10b4] | rw [c10b3] | skip)
        have H' := Aside0.mk H
        clear H
        go_wp2
        go_meet
        case rel => exact ⟨_, (IntKind.u64.wrap (Int.tdiv t556 t558)), (by first | rfl | (simp; done) | (simp [*]; done)), H', ⟨by first | omega | exact Nat.le_refl _⟩, ⟨by (with_reducible repeat (first | refine blk_drewN ?_ _ | refine blk_drew ?_ | refine blk_alloc ?_ _)); exact BK554.out⟩, ⟨by (with_reducible repeat (first | refine blk_drewN ?_ _ | refine blk_drew ?_ | refine blk_alloc ?_ _)); exact BK555.out⟩, ⟨by repeat (first | (with_reducible first | exact HB.out | apply below_alloc | apply pw_below_drewN | apply below_drew1 | refine below_set ?_ GE554.out | refine below_set ?_ GE555.out) | exact HB.out)⟩⟩
    case rest =>
      clear HC7
      try clear c1
      try clear p2
      try clear c6
      try clear c6b0
      try clear c6b1
      try clear c10
      try clear c10b0
      try clear c10b1
      try clear c10b2
      obtain ⟨kq, x12_6, rfl, HA, HJ6, BK554, BK555, HB⟩ := hcut
      cases kq with
      | zero => exact absurd HA.out (by simp [spec_l4Divide.j0])
      | succ kj6 =>
        have H := HA.out
        clear HA
        simp only [spec_l4Divide.j0] at H
        by_cases c11 : t557 = true
        · subst c11
          have H1 : ((spec_l4Num.f kj6 a0 x12_6).bind fun bt560 => ((spec_l4Num.f kj6 a0 (IntKind.u64.wrap (-(Int.tmod t556 t558)))).bind fun bt563 => (some (bt560.1, bt560.2.1, bt560.2.2, bt563.1, bt563.2.1, bt563.2.2)))) = some (r1, r2, r3, r4, r5, r6) := by rw [if_pos rfl] at H; exact H
          clear H
          have H := H1
          clear H1
          replace H := Option.bind_eq_some_iff.mp H
          obtain ⟨⟨t560, t561, t562⟩, A120, H⟩ := H
          replace H : ((spec_l4Num.f kj6 a0 (IntKind.u64.wrap (-(Int.tmod t556 t558)))).bind fun bt563 => (some (t560, t561, t562, bt563.1, bt563.2.1, bt563.2.2))) = some (r1, r2, r3, r4, r5, r6) := H
          have A12 := Aside0.mk A120
          clear A120
          replace H := Option.bind_eq_some_iff.mp H
          obtain ⟨⟨t563, t564, t565⟩, A130, H⟩ := H
          replace H : (some (t560, t561, t562, t563, t564, t565)) = some (r1, r2, r3, r4, r5, r6) := H
          have A13 := Aside0.mk A130
          clear A130
          simp only [Option.some.injEq, Prod.mk.injEq] at H
          obtain ⟨rfl, rfl, rfl, rfl, rfl, rfl⟩ := H
          go_wp2_with (first | ((with_reducible refine gate_callee (f := 66) rfl ?_); refine goesL_ (some 42) rfl rfl Try.func66 (by kernel_rfl) rfl #[.int .i64 a0, .int .u64 x12_6] rfl (by (try simp only [List.map_toArray, List.map_cons, List.map_nil]); first | done | rfl | (simp only [List.length_drop, List.length_take]; rfl)) ?_; (with_reducible refine (spec_l4Num.calls kj6 a0 x12_6 t560 t561 t562 _ A12.out).mono ?_); rintro e w14 ⟨rfl, hb⟩; refine ⟨_, rfl, ?_⟩; have n0_ := Aside0.mk (blk_below (g := gb554) (o := .cells #[.int .i64 0, .int .i64 0, .string (⟨#[]⟩ : ByteArray)] 34 (0, 0)) (by (with_reducible repeat (first | refine blk_drewN ?_ _ | refine blk_drew ?_ | refine blk_alloc ?_ _)); exact BK554.out) hb); have n1_ := Aside0.mk (blk_below (g := gb555) (o := .cells #[.int .i64 0, .int .i64 0, .string (⟨#[]⟩ : ByteArray)] 34 (0, 0)) (by (with_reducible repeat (first | refine blk_drewN ?_ _ | refine blk_drew ?_ | refine blk_alloc ?_ _)); exact BK555.out) hb); have n2_ := Aside0.mk (below_step (by repeat (first | (with_reducible first | exact HB.out | apply below_alloc | apply pw_below_drewN | apply below_drew1 | refine below_set ?_ GE554.out | refine below_set ?_ GE555.out) | exact HB.out)) hb); clear BK554; clear BK555; clear HB; have BK554 := n0_; have BK555 := n1_; have HB := n2_; clear n0_ n1_ n2_; (try clear hb); (try clear hb2); (try clear hk); (try clear hi)) | ((with_reducible refine gate_callee (f := 66) rfl ?_); refine goesL_ (some 45) rfl rfl Try.func66 (by kernel_rfl) rfl #[.int .i64 a0, .int .u64 (IntKind.u64.wrap (-(Int.tmod t556 t558)))] rfl (by (try simp only [List.map_toArray, List.map_cons, List.map_nil]); first | done | rfl | (simp only [List.length_drop, List.length_take]; rfl)) ?_; (with_reducible refine (spec_l4Num.calls kj6 a0 (IntKind.u64.wrap (-(Int.tmod t556 t558))) t563 t564 t565 _ A13.out).mono ?_); rintro e w15 ⟨rfl, hb⟩; refine ⟨_, rfl, ?_⟩; have n0_ := Aside0.mk (blk_below (g := gb554) (o := .cells #[.int .i64 0, .int .i64 0, .string (⟨#[]⟩ : ByteArray)] 34 (0, 0)) (by (with_reducible repeat (first | refine blk_drewN ?_ _ | refine blk_drew ?_ | refine blk_alloc ?_ _)); exact BK554.out) hb); have n1_ := Aside0.mk (blk_below (g := gb555) (o := .cells #[.int .i64 0, .int .i64 0, .string (⟨#[]⟩ : ByteArray)] 34 (0, 0)) (by (with_reducible repeat (first | refine blk_drewN ?_ _ | refine blk_drew ?_ | refine blk_alloc ?_ _)); exact BK555.out) hb); have n2_ := Aside0.mk (below_step (by repeat (first | (with_reducible first | exact HB.out | apply below_alloc | apply pw_below_drewN | apply below_drew1 | refine below_set ?_ GE554.out | refine below_set ?_ GE555.out) | exact HB.out)) hb); clear BK554; clear BK555; clear HB; have BK554 := n0_; have BK555 := n1_; have HB := n2_; clear n0_ n1_ n2_; (try clear hb); (try clear hb2); (try clear hk); (try clear hi); have hnb16 := NB554_555.out; have hnc16 := NB555_554.out; have hcz17_0 : w15.cell? ⟨gb554, 0, none⟩ = some (.int .i64 0) := (blk_cell BK554.out 0).trans rfl; have hcz17_1 : w15.cell? ⟨gb554, 1, none⟩ = some (.int .i64 0) := (blk_cell BK554.out 1).trans rfl; have hcz17_2 : w15.cell? ⟨gb554, 2, none⟩ = some (.string (⟨#[]⟩ : ByteArray)) := (blk_cell BK554.out 2).trans rfl; have hfz17_0 := blk_frozen BK554.out 0; have hfz17_1 := blk_frozen BK554.out 1; have hfz17_2 := blk_frozen BK554.out 2; have hcz18_0 : w15.cell? ⟨gb555, 0, none⟩ = some (.int .i64 0) := (blk_cell BK555.out 0).trans rfl; have hcz18_1 : w15.cell? ⟨gb555, 1, none⟩ = some (.int .i64 0) := (blk_cell BK555.out 1).trans rfl; have hcz18_2 : w15.cell? ⟨gb555, 2, none⟩ = some (.string (⟨#[]⟩ : ByteArray)) := (blk_cell BK555.out 2).trans rfl; have hfz18_0 := blk_frozen BK555.out 0; have hfz18_1 := blk_frozen BK555.out 1; have hfz18_2 := blk_frozen BK555.out 2))
          refine bodyPost_ret (results_cc rfl _ _ gb554 gb555 34 34 #[.int .i64 t560, .int .i64 t561, .string t562] #[.int .i64 t563, .int .i64 t564, .string t565] (0, 0) (0, 0) _ _ rfl (by (with_reducible repeat (first | refine blk_drewN ?_ _ | refine blk_drew ?_ | refine blk_alloc ?_ _)); refine blk_far ?_ NB554_555.out _; (with_reducible repeat (first | refine blk_drewN ?_ _ | refine blk_drew ?_ | refine blk_alloc ?_ _)); refine blk_far ?_ NB554_555.out _; (with_reducible repeat (first | refine blk_drewN ?_ _ | refine blk_drew ?_ | refine blk_alloc ?_ _)); refine blk_far ?_ NB554_555.out _; (with_reducible repeat (first | refine blk_drewN ?_ _ | refine blk_drew ?_ | refine blk_alloc ?_ _)); refine blk_put (cs := #[.int .i64 t560, .int .i64 t561, .string (⟨#[]⟩ : ByteArray)]) ?_ 2 _ rfl; (with_reducible repeat (first | refine blk_drewN ?_ _ | refine blk_drew ?_ | refine blk_alloc ?_ _)); refine blk_put (cs := #[.int .i64 t560, .int .i64 0, .string (⟨#[]⟩ : ByteArray)]) ?_ 1 _ rfl; (with_reducible repeat (first | refine blk_drewN ?_ _ | refine blk_drew ?_ | refine blk_alloc ?_ _)); refine blk_put (cs := #[.int .i64 0, .int .i64 0, .string (⟨#[]⟩ : ByteArray)]) ?_ 0 _ rfl; (with_reducible repeat (first | refine blk_drewN ?_ _ | refine blk_drew ?_ | refine blk_alloc ?_ _)); exact BK554.out) Try.underlying34 rfl (by kernel_rfl) rfl (by (with_reducible repeat (first | refine blk_drewN ?_ _ | refine blk_drew ?_ | refine blk_alloc ?_ _)); refine blk_put (cs := #[.int .i64 t563, .int .i64 t564, .string (⟨#[]⟩ : ByteArray)]) ?_ 2 _ rfl; (with_reducible repeat (first | refine blk_drewN ?_ _ | refine blk_drew ?_ | refine blk_alloc ?_ _)); refine blk_put (cs := #[.int .i64 t563, .int .i64 0, .string (⟨#[]⟩ : ByteArray)]) ?_ 1 _ rfl; (with_reducible repeat (first | refine blk_drewN ?_ _ | refine blk_drew ?_ | refine blk_alloc ?_ _)); refine blk_put (cs := #[.int .i64 0, .int .i64 0, .string (⟨#[]⟩ : ByteArray)]) ?_ 0 _ rfl; (with_reducible repeat (first | refine blk_drewN ?_ _ | refine blk_drew ?_ | refine blk_alloc ?_ _)); refine blk_far ?_ NB555_554.out _; (with_reducible repeat (first | refine blk_drewN ?_ _ | refine blk_drew ?_ | refine blk_alloc ?_ _)); refine blk_far ?_ NB555_554.out _; (with_reducible repeat (first | refine blk_drewN ?_ _ | refine blk_drew ?_ | refine blk_alloc ?_ _)); refine blk_far ?_ NB555_554.out _; (with_reducible repeat (first | refine blk_drewN ?_ _ | refine blk_drew ?_ | refine blk_alloc ?_ _)); exact BK555.out) Try.underlying34 rfl (by kernel_rfl)) rfl ?_
          exact ⟨by first | rfl | (simp [errW_none, errW_some] <;> rfl) | (simp [*, errW_none, errW_some] <;> rfl), by repeat (first | (with_reducible first | exact HB.out | apply below_alloc | apply pw_below_drewN | apply below_drew1 | refine below_set ?_ GE554.out | refine below_set ?_ GE555.out) | exact HB.out)⟩
        · replace c11 := Bool.eq_false_iff.mpr c11
          subst c11
          have H1 : ((spec_l4Num.f kj6 a0 x12_6).bind fun bt566 => ((spec_l4Num.f kj6 a0 (Int.tmod t556 t558)).bind fun bt569 => (some (bt566.1, bt566.2.1, bt566.2.2, bt569.1, bt569.2.1, bt569.2.2)))) = some (r1, r2, r3, r4, r5, r6) := by rw [if_neg (show ¬ (false = true) by decide)] at H; exact H
          clear H
          have H := H1
          clear H1
          replace H := Option.bind_eq_some_iff.mp H
          obtain ⟨⟨t566, t567, t568⟩, A190, H⟩ := H
          replace H : ((spec_l4Num.f kj6 a0 (Int.tmod t556 t558)).bind fun bt569 => (some (t566, t567, t568, bt569.1, bt569.2.1, bt569.2.2))) = some (r1, r2, r3, r4, r5, r6) := H
          have A19 := Aside0.mk A190
          clear A190
          replace H := Option.bind_eq_some_iff.mp H
          obtain ⟨⟨t569, t570, t571⟩, A200, H⟩ := H
          replace H : (some (t566, t567, t568, t569, t570, t571)) = some (r1, r2, r3, r4, r5, r6) := H
          have A20 := Aside0.mk A200
          clear A200
          simp only [Option.some.injEq, Prod.mk.injEq] at H
          obtain ⟨rfl, rfl, rfl, rfl, rfl, rfl⟩ := H
          go_wp2_with (first | ((with_reducible refine gate_callee (f := 66) rfl ?_); refine goesL_ (some 42) rfl rfl Try.func66 (by kernel_rfl) rfl #[.int .i64 a0, .int .u64 x12_6] rfl (by (try simp only [List.map_toArray, List.map_cons, List.map_nil]); first | done | rfl | (simp only [List.length_drop, List.length_take]; rfl)) ?_; (with_reducible refine (spec_l4Num.calls kj6 a0 x12_6 t566 t567 t568 _ A19.out).mono ?_); rintro e w21 ⟨rfl, hb⟩; refine ⟨_, rfl, ?_⟩; have n0_ := Aside0.mk (blk_below (g := gb554) (o := .cells #[.int .i64 0, .int .i64 0, .string (⟨#[]⟩ : ByteArray)] 34 (0, 0)) (by (with_reducible repeat (first | refine blk_drewN ?_ _ | refine blk_drew ?_ | refine blk_alloc ?_ _)); exact BK554.out) hb); have n1_ := Aside0.mk (blk_below (g := gb555) (o := .cells #[.int .i64 0, .int .i64 0, .string (⟨#[]⟩ : ByteArray)] 34 (0, 0)) (by (with_reducible repeat (first | refine blk_drewN ?_ _ | refine blk_drew ?_ | refine blk_alloc ?_ _)); exact BK555.out) hb); have n2_ := Aside0.mk (below_step (by repeat (first | (with_reducible first | exact HB.out | apply below_alloc | apply pw_below_drewN | apply below_drew1 | refine below_set ?_ GE554.out | refine below_set ?_ GE555.out) | exact HB.out)) hb); clear BK554; clear BK555; clear HB; have BK554 := n0_; have BK555 := n1_; have HB := n2_; clear n0_ n1_ n2_; (try clear hb); (try clear hb2); (try clear hk); (try clear hi)) | ((with_reducible refine gate_callee (f := 66) rfl ?_); refine goesL_ (some 45) rfl rfl Try.func66 (by kernel_rfl) rfl #[.int .i64 a0, .int .u64 (Int.tmod t556 t558)] rfl (by (try simp only [List.map_toArray, List.map_cons, List.map_nil]); first | done | rfl | (simp only [List.length_drop, List.length_take]; rfl)) ?_; (with_reducible refine (spec_l4Num.calls kj6 a0 (Int.tmod t556 t558) t569 t570 t571 _ A20.out).mono ?_); rintro e w22 ⟨rfl, hb⟩; refine ⟨_, rfl, ?_⟩; have n0_ := Aside0.mk (blk_below (g := gb554) (o := .cells #[.int .i64 0, .int .i64 0, .string (⟨#[]⟩ : ByteArray)] 34 (0, 0)) (by (with_reducible repeat (first | refine blk_drewN ?_ _ | refine blk_drew ?_ | refine blk_alloc ?_ _)); exact BK554.out) hb); have n1_ := Aside0.mk (blk_below (g := gb555) (o := .cells #[.int .i64 0, .int .i64 0, .string (⟨#[]⟩ : ByteArray)] 34 (0, 0)) (by (with_reducible repeat (first | refine blk_drewN ?_ _ | refine blk_drew ?_ | refine blk_alloc ?_ _)); exact BK555.out) hb); have n2_ := Aside0.mk (below_step (by repeat (first | (with_reducible first | exact HB.out | apply below_alloc | apply pw_below_drewN | apply below_drew1 | refine below_set ?_ GE554.out | refine below_set ?_ GE555.out) | exact HB.out)) hb); clear BK554; clear BK555; clear HB; have BK554 := n0_; have BK555 := n1_; have HB := n2_; clear n0_ n1_ n2_; (try clear hb); (try clear hb2); (try clear hk); (try clear hi); have hnb23 := NB554_555.out; have hnc23 := NB555_554.out; have hcz24_0 : w22.cell? ⟨gb554, 0, none⟩ = some (.int .i64 0) := (blk_cell BK554.out 0).trans rfl; have hcz24_1 : w22.cell? ⟨gb554, 1, none⟩ = some (.int .i64 0) := (blk_cell BK554.out 1).trans rfl; have hcz24_2 : w22.cell? ⟨gb554, 2, none⟩ = some (.string (⟨#[]⟩ : ByteArray)) := (blk_cell BK554.out 2).trans rfl; have hfz24_0 := blk_frozen BK554.out 0; have hfz24_1 := blk_frozen BK554.out 1; have hfz24_2 := blk_frozen BK554.out 2; have hcz25_0 : w22.cell? ⟨gb555, 0, none⟩ = some (.int .i64 0) := (blk_cell BK555.out 0).trans rfl; have hcz25_1 : w22.cell? ⟨gb555, 1, none⟩ = some (.int .i64 0) := (blk_cell BK555.out 1).trans rfl; have hcz25_2 : w22.cell? ⟨gb555, 2, none⟩ = some (.string (⟨#[]⟩ : ByteArray)) := (blk_cell BK555.out 2).trans rfl; have hfz25_0 := blk_frozen BK555.out 0; have hfz25_1 := blk_frozen BK555.out 1; have hfz25_2 := blk_frozen BK555.out 2))
          refine bodyPost_ret (results_cc rfl _ _ gb554 gb555 34 34 #[.int .i64 t566, .int .i64 t567, .string t568] #[.int .i64 t569, .int .i64 t570, .string t571] (0, 0) (0, 0) _ _ rfl (by (with_reducible repeat (first | refine blk_drewN ?_ _ | refine blk_drew ?_ | refine blk_alloc ?_ _)); refine blk_far ?_ NB554_555.out _; (with_reducible repeat (first | refine blk_drewN ?_ _ | refine blk_drew ?_ | refine blk_alloc ?_ _)); refine blk_far ?_ NB554_555.out _; (with_reducible repeat (first | refine blk_drewN ?_ _ | refine blk_drew ?_ | refine blk_alloc ?_ _)); refine blk_far ?_ NB554_555.out _; (with_reducible repeat (first | refine blk_drewN ?_ _ | refine blk_drew ?_ | refine blk_alloc ?_ _)); refine blk_put (cs := #[.int .i64 t566, .int .i64 t567, .string (⟨#[]⟩ : ByteArray)]) ?_ 2 _ rfl; (with_reducible repeat (first | refine blk_drewN ?_ _ | refine blk_drew ?_ | refine blk_alloc ?_ _)); refine blk_put (cs := #[.int .i64 t566, .int .i64 0, .string (⟨#[]⟩ : ByteArray)]) ?_ 1 _ rfl; (with_reducible repeat (first | refine blk_drewN ?_ _ | refine blk_drew ?_ | refine blk_alloc ?_ _)); refine blk_put (cs := #[.int .i64 0, .int .i64 0, .string (⟨#[]⟩ : ByteArray)]) ?_ 0 _ rfl; (with_reducible repeat (first | refine blk_drewN ?_ _ | refine blk_drew ?_ | refine blk_alloc ?_ _)); exact BK554.out) Try.underlying34 rfl (by kernel_rfl) rfl (by (with_reducible repeat (first | refine blk_drewN ?_ _ | refine blk_drew ?_ | refine blk_alloc ?_ _)); refine blk_put (cs := #[.int .i64 t569, .int .i64 t570, .string (⟨#[]⟩ : ByteArray)]) ?_ 2 _ rfl; (with_reducible repeat (first | refine blk_drewN ?_ _ | refine blk_drew ?_ | refine blk_alloc ?_ _)); refine blk_put (cs := #[.int .i64 t569, .int .i64 0, .string (⟨#[]⟩ : ByteArray)]) ?_ 1 _ rfl; (with_reducible repeat (first | refine blk_drewN ?_ _ | refine blk_drew ?_ | refine blk_alloc ?_ _)); refine blk_put (cs := #[.int .i64 0, .int .i64 0, .string (⟨#[]⟩ : ByteArray)]) ?_ 0 _ rfl; (with_reducible repeat (first | refine blk_drewN ?_ _ | refine blk_drew ?_ | refine blk_alloc ?_ _)); refine blk_far ?_ NB555_554.out _; (with_reducible repeat (first | refine blk_drewN ?_ _ | refine blk_drew ?_ | refine blk_alloc ?_ _)); refine blk_far ?_ NB555_554.out _; (with_reducible repeat (first | refine blk_drewN ?_ _ | refine blk_drew ?_ | refine blk_alloc ?_ _)); refine blk_far ?_ NB555_554.out _; (with_reducible repeat (first | refine blk_drewN ?_ _ | refine blk_drew ?_ | refine blk_alloc ?_ _)); exact BK555.out) Try.underlying34 rfl (by kernel_rfl)) rfl ?_
          exact ⟨by first | rfl | (simp [errW_none, errW_some] <;> rfl) | (simp [*, errW_none, errW_some] <;> rfl), by repeat (first | (with_reducible first | exact HB.out | apply below_alloc | apply pw_below_drewN | apply below_drew1 | refine below_set ?_ GE554.out | refine below_set ?_ GE555.out) | exact HB.out)⟩

end Go.Proofs.Ytajlomhnednghaa.R
namespace Go.Proofs.Ytajlomhnednghaa.R
open Go.RowKit Go.Proofs.YtajlomhnednghaaW.PrintWords Go.Proofs.YtajlomhnednghaaW.PrintLast Go.Proofs.YtajlomhnednghaaW.PrintMore
attribute [local go_sem] max2_int min2_int max_two min_two max_three min_three max_four min_four   -- for this text's walks alone
set_option linter.unusedVariables false
set_option linter.unusedSimpArgs false

/-! ### spec_Binary: function 56 -/
mutual
def spec_Binary.j0 : Nat → Int → Bool → Int → Int → ByteArray → Int → Int → ByteArray → Option (Int × Int × ByteArray × ByteArray)
  | 0, _, _, _, _, _, _, _, _ => none
  | k + 1, x0, x36, x573000, x573001, x573002, x574000, x574001, x574002 => if x36 = true then (some (0, 0, (⟨#[]⟩ : ByteArray), (⟨#[116, 121, 112, 101]⟩ : ByteArray))) else (if x0 = 1 then (if x573001 = 1 then ((spec_l4Bool.f true).bind fun bt578 => (some (bt578.1, bt578.2.1, bt578.2.2, (⟨#[]⟩ : ByteArray)))) else ((spec_l4Bool.f (x574001 == 1)).bind fun bt581 => (some (bt581.1, bt581.2.1, bt581.2.2, (⟨#[]⟩ : ByteArray))))) else (if x0 = 2 then (if x573001 = 1 then ((spec_l4Bool.f (x574001 == 1)).bind fun bt584 => (some (bt584.1, bt584.2.1, bt584.2.2, (⟨#[]⟩ : ByteArray)))) else ((spec_l4Bool.f false).bind fun bt587 => (some (bt587.1, bt587.2.1, bt587.2.2, (⟨#[]⟩ : ByteArray))))) else (if x0 = 3 then (spec_Binary.j1 k x0 (IntKind.u64.wrap (x573001)) (IntKind.u64.wrap (x574001)) x0 (x0 == 3) x573000 x573001 x573002 x574000 x574001 x574002) else (if x0 = 4 then (spec_Binary.j1 k x0 (IntKind.u64.wrap (x573001)) (IntKind.u64.wrap (x574001)) x0 (x0 == 4) x573000 x573001 x573002 x574000 x574001 x574002) else (if x0 = 5 then (spec_Binary.j1 k x0 (IntKind.u64.wrap (x573001)) (IntKind.u64.wrap (x574001)) x0 (x0 == 5) x573000 x573001 x573002 x574000 x574001 x574002) else (if x0 = 6 then (spec_Binary.j1 k x0 (IntKind.u64.wrap (x573001)) (IntKind.u64.wrap (x574001)) x0 (x0 == 6) x573000 x573001 x573002 x574000 x574001 x574002) else (if x0 = 7 then (spec_Binary.j1 k x0 (IntKind.u64.wrap (x573001)) (IntKind.u64.wrap (x574001)) x0 (x0 == 7) x573000 x573001 x573002 x574000 x574001 x574002) else (spec_Binary.j1 k x0 (IntKind.u64.wrap (x573001)) (IntKind.u64.wrap (x574001)) x0 (x0 == 8) x573000 x573001 x573002 x574000 x574001 x574002))))))))
def spec_Binary.j1 : Nat → Int → Int → Int → Int → Bool → Int → Int → ByteArray → Int → Int → ByteArray → Option (Int × Int × ByteArray × ByteArray)
  | 0, _, _, _, _, _, _, _, _, _, _, _ => none
  | k + 1, x0, x8, x9, x44, x67, x573000, x573001, x573002, x574000, x574001, x574002 => if x67 = true then ((spec_l4Order.f x0 x573000 x573001 x573002 x574000 x574001 x574002).bind fun t590 => ((spec_l4Bool.f t590).bind fun bt591 => (some (bt591.1, bt591.2.1, bt591.2.2, (⟨#[]⟩ : ByteArray))))) else (if x44 = 9 then (if x573000 = 2 then (if (wrap64 ((x573002.size : Int) + (x574002.size : Int))) > 3000 then (some (0, 0, (⟨#[]⟩ : ByteArray), (⟨#[108, 111, 110, 103]⟩ : ByteArray))) else (if x573002.size + x574002.size ≤ 9223372036854775807 then ((spec_l4Text.f (x573002 ++ x574002)).bind fun bt594 => (some (bt594.1, bt594.2.1, bt594.2.2, (⟨#[]⟩ : ByteArray)))) else (none))) else ((spec_l4Num.f k x573000 (IntKind.u64.wrap (x8 + x9))).bind fun bt597 => (some (bt597.1, bt597.2.1, bt597.2.2, (⟨#[]⟩ : ByteArray))))) else (if x44 = 10 then ((spec_l4Num.f k x573000 (IntKind.u64.wrap (x8 - x9))).bind fun bt600 => (some (bt600.1, bt600.2.1, bt600.2.2, (⟨#[]⟩ : ByteArray)))) else (if x44 = 11 then ((spec_l4Num.f k x573000 (Go.bits .or .u64 x8 x9)).bind fun bt603 => (some (bt603.1, bt603.2.1, bt603.2.2, (⟨#[]⟩ : ByteArray)))) else (if x44 = 12 then ((spec_l4Num.f k x573000 (Go.bits .xor .u64 x8 x9)).bind fun bt606 => (some (bt606.1, bt606.2.1, bt606.2.2, (⟨#[]⟩ : ByteArray)))) else (if x44 = 13 then ((spec_l4Num.f k x573000 (IntKind.u64.wrap (x8 * x9))).bind fun bt609 => (some (bt609.1, bt609.2.1, bt609.2.2, (⟨#[]⟩ : ByteArray)))) else (if x44 = 16 then ((spec_l4Num.f k x573000 (Go.bits .and .u64 x8 x9)).bind fun bt612 => (some (bt612.1, bt612.2.1, bt612.2.2, (⟨#[]⟩ : ByteArray)))) else (if x44 = 17 then ((spec_l4Shift.f k x0 x573000 x573001 x574001).bind fun bt615 => (some (bt615.1, bt615.2.1, bt615.2.2, (⟨#[]⟩ : ByteArray)))) else (if x44 = 18 then ((spec_l4Shift.f k x0 x573000 x573001 x574001).bind fun bt618 => (some (bt618.1, bt618.2.1, bt618.2.2, (⟨#[]⟩ : ByteArray)))) else (if x574001 = 0 then (some (0, 0, (⟨#[]⟩ : ByteArray), (⟨#[100, 105, 118, 105, 100, 101]⟩ : ByteArray))) else ((spec_l4Divide.f k x573000 x573001 x574001).bind fun bt621 => (if x0 = 14 then (some (bt621.1, bt621.2.1, bt621.2.2.1, (⟨#[]⟩ : ByteArray))) else (some (bt621.2.2.2.1, bt621.2.2.2.2.1, bt621.2.2.2.2.2, (⟨#[]⟩ : ByteArray))))))))))))))
end
def spec_Binary.f (k : Nat) (a0 : Int) (a1_0 : Int) (a1_1 : Int) (a1_2 : ByteArray) (a2_0 : Int) (a2_1 : Int) (a2_2 : ByteArray) : Option (Int × Int × ByteArray × ByteArray) := (spec_ValidValue.f k a1_0 a1_1 a1_2).bind fun t575 => (if t575 = true then ((spec_ValidValue.f k a2_0 a2_1 a2_2).bind fun t576 => (if t576 = true then (if a0 < 1 then (spec_Binary.j0 k a0 true a1_0 a1_1 a1_2 a2_0 a2_1 a2_2) else (if a0 > 18 then (spec_Binary.j0 k a0 true a1_0 a1_1 a1_2 a2_0 a2_1 a2_2) else ((spec_l3Bin.f k a0 a1_0 a2_0).bind fun t577 => (spec_Binary.j0 k a0 (t577 == 0) a1_0 a1_1 a1_2 a2_0 a2_1 a2_2)))) else (spec_Binary.j0 k a0 true a1_0 a1_1 a1_2 a2_0 a2_1 a2_2))) else (spec_Binary.j0 k a0 true a1_0 a1_1 a1_2 a2_0 a2_1 a2_2))
theorem spec_Binary.mono_l : ∀ k, (∀ y0 y1 y2 y3 y4 y5 y6 y7, LeO (spec_Binary.j0 k y0 y1 y2 y3 y4 y5 y6 y7) (spec_Binary.j0 (k + 1) y0 y1 y2 y3 y4 y5 y6 y7)) ∧ (∀ y0 y1 y2 y3 y4 y5 y6 y7 y8 y9 y10, LeO (spec_Binary.j1 k y0 y1 y2 y3 y4 y5 y6 y7 y8 y9 y10) (spec_Binary.j1 (k + 1) y0 y1 y2 y3 y4 y5 y6 y7 y8 y9 y10))
  | 0 => ⟨fun _ _ _ _ _ _ _ _ r h => by simp [spec_Binary.j0] at h, fun _ _ _ _ _ _ _ _ _ _ _ r h => by simp [spec_Binary.j1] at h⟩
  | k + 1 => by
    obtain ⟨ih0, ih1⟩ := spec_Binary.mono_l k
    refine ⟨?_, ?_⟩
    · intro y0 y1 y2 y3 y4 y5 y6 y7
      unfold spec_Binary.j0
      repeat' first
      | (with_reducible exact ih0 _ _ _ _ _ _ _ _)
      | (with_reducible exact ih1 _ _ _ _ _ _ _ _ _ _ _)
      | (with_reducible exact spec_ValidValue.mono _ _ _ _)
      | (with_reducible exact spec_l3Bin.mono _ _ _ _)
      | (with_reducible exact spec_l4Divide.mono _ _ _ _)
      | (with_reducible exact spec_l4Num.mono _ _ _)
      | (with_reducible exact spec_l4Shift.mono _ _ _ _ _)
      | (with_reducible exact LeO.refl _)
      | (with_reducible exact LeO.none _)
      | (with_reducible refine LeO.ite ?_ ?_)
      | (with_reducible refine LeO.bind ?_ (fun _ => ?_))
      | exact ih0 _ _ _ _ _ _ _ _
      | exact ih1 _ _ _ _ _ _ _ _ _ _ _
      | exact spec_ValidValue.mono _ _ _ _
      | exact spec_l3Bin.mono _ _ _ _
      | exact spec_l4Divide.mono _ _ _ _
      | exact spec_l4Num.mono _ _ _
      | exact spec_l4Shift.mono _ _ _ _ _
      | exact LeO.none _
      | refine LeO.ite ?_ ?_
      | refine LeO.bind ?_ (fun _ => ?_)
    · intro y0 y1 y2 y3 y4 y5 y6 y7 y8 y9 y10
      unfold spec_Binary.j1
      repeat' first
      | (with_reducible exact ih0 _ _ _ _ _ _ _ _)
      | (with_reducible exact ih1 _ _ _ _ _ _ _ _ _ _ _)
      | (with_reducible exact spec_ValidValue.mono _ _ _ _)
      | (with_reducible exact spec_l3Bin.mono _ _ _ _)
      | (with_reducible exact spec_l4Divide.mono _ _ _ _)
      | (with_reducible exact spec_l4Num.mono _ _ _)
      | (with_reducible exact spec_l4Shift.mono _ _ _ _ _)
      | (with_reducible exact LeO.refl _)
      | (with_reducible exact LeO.none _)
      | (with_reducible refine LeO.ite ?_ ?_)
      | (with_reducible refine LeO.bind ?_ (fun _ => ?_))
      | exact ih0 _ _ _ _ _ _ _ _
      | exact ih1 _ _ _ _ _ _ _ _ _ _ _
      | exact spec_ValidValue.mono _ _ _ _
      | exact spec_l3Bin.mono _ _ _ _
      | exact spec_l4Divide.mono _ _ _ _
      | exact spec_l4Num.mono _ _ _
      | exact spec_l4Shift.mono _ _ _ _ _
      | exact LeO.none _
      | refine LeO.ite ?_ ?_
      | refine LeO.bind ?_ (fun _ => ?_)
theorem spec_Binary.mono : ∀ a0 a1 a2 a3 a4 a5 a6 k, LeO (spec_Binary.f k a0 a1 a2 a3 a4 a5 a6) (spec_Binary.f (k + 1) a0 a1 a2 a3 a4 a5 a6) := by
  intro a0 a1 a2 a3 a4 a5 a6 k
  obtain ⟨ih0, ih1⟩ := spec_Binary.mono_l k
  unfold spec_Binary.f
  repeat' first
      | (with_reducible exact ih0 _ _ _ _ _ _ _ _)
      | (with_reducible exact ih1 _ _ _ _ _ _ _ _ _ _ _)
      | (with_reducible exact spec_ValidValue.mono _ _ _ _)
      | (with_reducible exact spec_l3Bin.mono _ _ _ _)
      | (with_reducible exact spec_l4Divide.mono _ _ _ _)
      | (with_reducible exact spec_l4Num.mono _ _ _)
      | (with_reducible exact spec_l4Shift.mono _ _ _ _ _)
      | (with_reducible exact LeO.refl _)
      | (with_reducible exact LeO.none _)
      | (with_reducible refine LeO.ite ?_ ?_)
      | (with_reducible refine LeO.bind ?_ (fun _ => ?_))
      | exact ih0 _ _ _ _ _ _ _ _
      | exact ih1 _ _ _ _ _ _ _ _ _ _ _
      | exact spec_ValidValue.mono _ _ _ _
      | exact spec_l3Bin.mono _ _ _ _
      | exact spec_l4Divide.mono _ _ _ _
      | exact spec_l4Num.mono _ _ _
      | exact spec_l4Shift.mono _ _ _ _ _
      | exact LeO.none _
      | refine LeO.ite ?_ ?_
      | refine LeO.bind ?_ (fun _ => ?_)
set_option maxHeartbeats 8000000 in
set_option maxRecDepth 100000 in
theorem spec_Binary.calls (k : Nat) (a0 : Int) (a1_0 : Int) (a1_1 : Int) (a1_2 : ByteArray) (a2_0 : Int) (a2_1 : Int) (a2_2 : ByteArray) (r1 : Int) (r2 : Int) (r3 : ByteArray) (r4 : ByteArray) (w : World) (h : spec_Binary.f k a0 a1_0 a1_1 a1_2 a2_0 a2_1 a2_2 = some (r1, r2, r3, r4)) :
    Calls Try.prog 56 #[.int .i64 a0, .agg #[.int .i64 a1_0, .int .i64 a1_1, .string a1_2], .agg #[.int .i64 a2_0, .int .i64 a2_1, .string a2_2]] w fun e w' => e = .returned (.tuple #[.agg #[.int .i64 r1, .int .i64 r2, .string r3], .string r4]) ∧ Below w.heap.size w w' := by
  have hu34 := Try.underlying34
  have HB := Aside0.mk (Below.refl w.heap.size w)
  have H : ((spec_ValidValue.f k a1_0 a1_1 a1_2).bind fun t575 => (if t575 = true then ((spec_ValidValue.f k a2_0 a2_1 a2_2).bind fun t576 => (if t576 = true then (if a0 < 1 then (spec_Binary.j0 k a0 true a1_0 a1_1 a1_2 a2_0 a2_1 a2_2) else (if a0 > 18 then (spec_Binary.j0 k a0 true a1_0 a1_1 a1_2 a2_0 a2_1 a2_2) else ((spec_l3Bin.f k a0 a1_0 a2_0).bind fun t577 => (spec_Binary.j0 k a0 (t577 == 0) a1_0 a1_1 a1_2 a2_0 a2_1 a2_2)))) else (spec_Binary.j0 k a0 true a1_0 a1_1 a1_2 a2_0 a2_1 a2_2))) else (spec_Binary.j0 k a0 true a1_0 a1_1 a1_2 a2_0 a2_1 a2_2))) = some (r1, r2, r3, r4) := h
  clear h
  have HC4 := Aside0.mk H
  clear H
  go_enter Try.func56, Try.ntmps56
  go_upto_region 1 with (first | ((with_reducible refine gate_dst (N := 4) rfl ?_); refine box_event ?hg (N := 4) ?hd (cs := #[.int .i64 a1_0, .int .i64 a1_1, .string a1_2]) (t := 34) ?hr ?_; (case hd => rfl); (case hg => rfl); (case hr => first | (go_simp; done) | (go_simp; rfl)); intro gb572 hg w5 hbox hb; have n0_ := Aside0.mk (below_step (by repeat (first | (with_reducible first | exact HB.out | apply below_alloc | apply pw_below_drewN | apply below_drew1) | exact HB.out)) hb); have n1_ := Aside0.mk (hbox); have n2_ := Aside0.mk ((by rw [hg]; exact (below_size (by repeat (first | (with_reducible first | exact HB.out | apply below_alloc | apply pw_below_drewN | apply below_drew1) | exact HB.out))) : w.heap.size ≤ gb572)); have n3_ := Aside0.mk ((by rw [hg]; exact (below_size (by repeat (first | (with_reducible first | exact HB.out | apply below_alloc | apply pw_below_drewN | apply below_drew1) | exact HB.out))) : w.heap.size ≤ gb572)); clear HB; have HB := n0_; have BK572 := n1_; have GW572 := n2_; have GE572 := n3_; clear n0_ n1_ n2_ n3_; clear hb hbox hg) | ((with_reducible refine gate_dst (N := 5) rfl ?_); refine box_event ?hg (N := 5) ?hd (cs := #[.int .i64 a2_0, .int .i64 a2_1, .string a2_2]) (t := 34) ?hr ?_; (case hd => rfl); (case hg => rfl); (case hr => first | (go_simp; done) | (go_simp; rfl)); intro gb573 hg w6 hbox hb; have n0_ := Aside0.mk (blk_below (g := gb572) (o := .cells #[.int .i64 a1_0, .int .i64 a1_1, .string a1_2] 34 (0, 0)) (by (with_reducible repeat (first | refine blk_drewN ?_ _ | refine blk_drew ?_ | refine blk_alloc ?_ _)); exact BK572.out) hb); have n1_ := Aside0.mk (below_step (by repeat (first | (with_reducible first | exact HB.out | apply below_alloc | apply pw_below_drewN | apply below_drew1 | refine below_set ?_ GE572.out) | exact HB.out)) hb); have n2_ := Aside0.mk (hbox); have n3_ := Aside0.mk ((by rw [hg]; exact (below_size (by repeat (first | (with_reducible first | exact HB.out | apply below_alloc | apply pw_below_drewN | apply below_drew1 | refine below_set ?_ GE572.out) | exact HB.out))) : w.heap.size ≤ gb573)); have n4_ := Aside0.mk ((by rw [hg]; exact (below_size (by repeat (first | (with_reducible first | exact HB.out | apply below_alloc | apply pw_below_drewN | apply below_drew1 | refine below_set ?_ GE572.out) | exact HB.out))) : w.heap.size ≤ gb573)); have n5_ := Aside0.mk ((by rw [hg]; exact Nat.ne_of_lt (blk_lt (g := gb572) (o := .cells #[.int .i64 a1_0, .int .i64 a1_1, .string a1_2] 34 (0, 0)) (by (with_reducible repeat (first | refine blk_drewN ?_ _ | refine blk_drew ?_ | refine blk_alloc ?_ _)); exact BK572.out)) : gb572 ≠ gb573)); have n6_ := Aside0.mk ((by rw [hg]; exact Nat.ne_of_gt (blk_lt (g := gb572) (o := .cells #[.int .i64 a1_0, .int .i64 a1_1, .string a1_2] 34 (0, 0)) (by (with_reducible repeat (first | refine blk_drewN ?_ _ | refine blk_drew ?_ | refine blk_alloc ?_ _)); exact BK572.out)) : gb573 ≠ gb572)); clear BK572; clear HB; have BK572 := n0_; have HB := n1_; have BK573 := n2_; have GW573 := n3_; have GE573 := n4_; have NB572_573 := n5_; have NB573_572 := n6_; clear n0_ n1_ n2_ n3_ n4_ n5_ n6_; clear hb hbox hg) | ((with_reducible refine gate_dst (N := 6) rfl ?_); refine box_event ?hg (N := 6) ?hd (cs := #[.int .i64 0, .int .i64 0, .string (⟨#[]⟩ : ByteArray)]) (t := 34) ?hr ?_; (case hd => rfl); (case hg => rfl); (case hr => first | (go_simp; done) | (go_simp; rfl)); intro gb574 hg w7 hbox hb; have n0_ := Aside0.mk (blk_below (g := gb572) (o := .cells #[.int .i64 a1_0, .int .i64 a1_1, .string a1_2] 34 (0, 0)) (by (with_reducible repeat (first | refine blk_drewN ?_ _ | refine blk_drew ?_ | refine blk_alloc ?_ _)); exact BK572.out) hb); have n1_ := Aside0.mk (blk_below (g := gb573) (o := .cells #[.int .i64 a2_0, .int .i64 a2_1, .string a2_2] 34 (0, 0)) (by (with_reducible repeat (first | refine blk_drewN ?_ _ | refine blk_drew ?_ | refine blk_alloc ?_ _)); exact BK573.out) hb); have n2_ := Aside0.mk (below_step (by repeat (first | (with_reducible first | exact HB.out | apply below_alloc | apply pw_below_drewN | apply below_drew1 | refine below_set ?_ GE572.out | refine below_set ?_ GE573.out) | exact HB.out)) hb); have n3_ := Aside0.mk (hbox); have n4_ := Aside0.mk ((by rw [hg]; exact (below_size (by repeat (first | (with_reducible first | exact HB.out | apply below_alloc | apply pw_below_drewN | apply below_drew1 | refine below_set ?_ GE572.out | refine below_set ?_ GE573.out) | exact HB.out))) : w.heap.size ≤ gb574)); have n5_ := Aside0.mk ((by rw [hg]; exact (below_size (by repeat (first | (with_reducible first | exact HB.out | apply below_alloc | apply pw_below_drewN | apply below_drew1 | refine below_set ?_ GE572.out | refine below_set ?_ GE573.out) | exact HB.out))) : w.heap.size ≤ gb574)); have n6_ := Aside0.mk ((by rw [hg]; exact Nat.ne_of_lt (blk_lt (g := gb572) (o := .cells #[.int .i64 a1_0, .int .i64 a1_1, .string a1_2] 34 (0, 0)) (by (with_reducible repeat (first | refine blk_drewN ?_ _ | refine blk_drew ?_ | refine blk_alloc ?_ _)); exact BK572.out)) : gb572 ≠ gb574)); have n7_ := Aside0.mk ((by rw [hg]; exact Nat.ne_of_gt (blk_lt (g := gb572) (o := .cells #[.int .i64 a1_0, .int .i64 a1_1, .string a1_2] 34 (0, 0)) (by (with_reducible repeat (first | refine blk_drewN ?_ _ | refine blk_drew ?_ | refine blk_alloc ?_ _)); exact BK572.out)) : gb574 ≠ gb572)); have n8_ := Aside0.mk ((by rw [hg]; exact Nat.ne_of_lt (blk_lt (g := gb573) (o := .cells #[.int .i64 a2_0, .int .i64 a2_1, .string a2_2] 34 (0, 0)) (by (with_reducible repeat (first | refine blk_drewN ?_ _ | refine blk_drew ?_ | refine blk_alloc ?_ _)); exact BK573.out)) : gb573 ≠ gb574)); have n9_ := Aside0.mk ((by rw [hg]; exact Nat.ne_of_gt (blk_lt (g := gb573) (o := .cells #[.int .i64 a2_0, .int .i64 a2_1, .string a2_2] 34 (0, 0)) (by (with_reducible repeat (first | refine blk_drewN ?_ _ | refine blk_drew ?_ | refine blk_alloc ?_ _)); exact BK573.out)) : gb574 ≠ gb573)); clear BK572; clear BK573; clear HB; have BK572 := n0_; have BK573 := n1_; have HB := n2_; have BK574 := n3_; have GW574 := n4_; have GE574 := n5_; have NB572_574 := n6_; have NB574_572 := n7_; have NB573_574 := n8_; have NB574_573 := n9_; clear n0_ n1_ n2_ n3_ n4_ n5_ n6_ n7_ n8_ n9_; clear hb hbox hg))
  (try simp only [Act.put, List.setIfInBounds_toArray, List.set_cons_zero, List.set_cons_succ])
  go_cut [36] (fun v36 wc => ∃ (kq : Nat) (x36_3 : Bool), v36 = .bool x36_3 ∧ Aside0 (spec_Binary.j0 kq a0 x36_3 a1_0 a1_1 a1_2 a2_0 a2_1 a2_2 = some (r1, r2, r3, r4)) ∧ Aside0 (kq ≤ k) ∧ Aside0 (wc.heap[gb572]? = some (.cells #[.int .i64 a1_0, .int .i64 a1_1, .string a1_2] 34 (0, 0))) ∧ Aside0 (wc.heap[gb573]? = some (.cells #[.int .i64 a2_0, .int .i64 a2_1, .string a2_2] 34 (0, 0))) ∧ Aside0 (wc.heap[gb574]? = some (.cells #[.int .i64 0, .int .i64 0, .string (⟨#[]⟩ : ByteArray)] 34 (0, 0))) ∧ Aside0 (Below w.heap.size w wc))
  case first =>
    have H := HC4.out
    clear HC4
    replace H := Option.bind_eq_some_iff.mp H
    obtain ⟨t575, A80, H⟩ := H
    replace H : (if t575 = true then ((spec_ValidValue.f k a2_0 a2_1 a2_2).bind fun t576 => (if t576 = true then (if a0 < 1 then (spec_Binary.j0 k a0 true a1_0 a1_1 a1_2 a2_0 a2_1 a2_2) else (if a0 > 18 then (spec_Binary.j0 k a0 true a1_0 a1_1 a1_2 a2_0 a2_1 a2_2) else ((spec_l3Bin.f k a0 a1_0 a2_0).bind fun t577 => (spec_Binary.j0 k a0 (t577 == 0) a1_0 a1_1 a1_2 a2_0 a2_1 a2_2)))) else (spec_Binary.j0 k a0 true a1_0 a1_1 a1_2 a2_0 a2_1 a2_2))) else (spec_Binary.j0 k a0 true a1_0 a1_1 a1_2 a2_0 a2_1 a2_2)) = some (r1, r2, r3, r4) := H
    have A8 := Aside0.mk A80
    clear A80
    by_cases c9 : t575 = true
    · subst c9
      have H1 : ((spec_ValidValue.f k a2_0 a2_1 a2_2).bind fun t576 => (if t576 = true then (if a0 < 1 then (spec_Binary.j0 k a0 true a1_0 a1_1 a1_2 a2_0 a2_1 a2_2) else (if a0 > 18 then (spec_Binary.j0 k a0 true a1_0 a1_1 a1_2 a2_0 a2_1 a2_2) else ((spec_l3Bin.f k a0 a1_0 a2_0).bind fun t577 => (spec_Binary.j0 k a0 (t577 == 0) a1_0 a1_1 a1_2 a2_0 a2_1 a2_2)))) else (spec_Binary.j0 k a0 true a1_0 a1_1 a1_2 a2_0 a2_1 a2_2))) = some (r1, r2, r3, r4) := by rw [if_pos rfl] at H; exact H
      clear H
      have H := H1
      clear H1
      replace H := Option.bind_eq_some_iff.mp H
      obtain ⟨t576, A100, H⟩ := H
      replace H : (if t576 = true then (if a0 < 1 then (spec_Binary.j0 k a0 true a1_0 a1_1 a1_2 a2_0 a2_1 a2_2) else (if a0 > 18 then (spec_Binary.j0 k a0 true a1_0 a1_1 a1_2 a2_0 a2_1 a2_2) else ((spec_l3Bin.f k a0 a1_0 a2_0).bind fun t577 => (spec_Binary.j0 k a0 (t577 == 0) a1_0 a1_1 a1_2 a2_0 a2_1 a2_2)))) else (spec_Binary.j0 k a0 true a1_0 a1_1 a1_2 a2_0 a2_1 a2_2)) = some (r1, r2, r3, r4) := H
      have A10 := Aside0.mk A100
      clear A100
      by_cases c11 : t576 = true
      · subst c11
        have H1 : (if a0 < 1 then (spec_Binary.j0 k a0 true a1_0 a1_1 a1_2 a2_0 a2_1 a2_2) else (if a0 > 18 then (spec_Binary.j0 k a0 true a1_0 a1_1 a1_2 a2_0 a2_1 a2_2) else ((spec_l3Bin.f k a0 a1_0 a2_0).bind fun t577 => (spec_Binary.j0 k a0 (t577 == 0) a1_0 a1_1 a1_2 a2_0 a2_1 a2_2)))) = some (r1, r2, r3, r4) := by rw [if_pos rfl] at H; exact H
        clear H
        have H := H1
        clear H1
        by_cases c12 : a0 < 1
        · rw [if_pos c12] at H
          have c12b0 : decide (a0 < 1) = true := decide_eq_true c12
          clear c12
          (first | rw [c12b0] | (simp only [i64_w, i32_w]; rw [c12b0]) | rw [c12b4] | rw [c12b3] | skip)
          have H' := Aside0.mk H
          clear H
          have hnb13 := NB572_573.out
          have hnc13 := NB573_572.out
          have hnb14 := NB572_574.out
          have hnc14 := NB574_572.out
          have hcz15_0 : w7.cell? ⟨gb572, 0, none⟩ = some (.int .i64 a1_0) := (blk_cell BK572.out 0).trans rfl
          have hcz15_1 : w7.cell? ⟨gb572, 1, none⟩ = some (.int .i64 a1_1) := (blk_cell BK572.out 1).trans rfl
          have hcz15_2 : w7.cell? ⟨gb572, 2, none⟩ = some (.string a1_2) := (blk_cell BK572.out 2).trans rfl
          have hfz15_0 := blk_frozen BK572.out 0
          have hfz15_1 := blk_frozen BK572.out 1
          have hfz15_2 := blk_frozen BK572.out 2
          go_wp2_with (first | ((with_reducible refine gate_callee (f := 20) rfl ?_); refine goesL_ (some 13) rfl rfl Try.func20 (by kernel_rfl) rfl #[.agg #[.int .i64 a1_0, .int .i64 a1_1, .string a1_2]] rfl (by (try simp only [List.map_toArray, List.map_cons, List.map_nil]); first | done | rfl | (simp only [List.length_drop, List.length_take]; rfl)) ?_; (with_reducible refine (spec_ValidValue.calls k a1_0 a1_1 a1_2 true _ A8.out).mono ?_); rintro e w16 ⟨rfl, hb⟩; refine ⟨_, rfl, ?_⟩; have n0_ := Aside0.mk (blk_below (g := gb572) (o := .cells #[.int .i64 a1_0, .int .i64 a1_1, .string a1_2] 34 (0, 0)) (by (with_reducible repeat (first | refine blk_drewN ?_ _ | refine blk_drew ?_ | refine blk_alloc ?_ _)); exact BK572.out) hb); have n1_ := Aside0.mk (blk_below (g := gb573) (o := .cells #[.int .i64 a2_0, .int .i64 a2_1, .string a2_2] 34 (0, 0)) (by (with_reducible repeat (first | refine blk_drewN ?_ _ | refine blk_drew ?_ | refine blk_alloc ?_ _)); exact BK573.out) hb); have n2_ := Aside0.mk (blk_below (g := gb574) (o := .cells #[.int .i64 0, .int .i64 0, .string (⟨#[]⟩ : ByteArray)] 34 (0, 0)) (by (with_reducible repeat (first | refine blk_drewN ?_ _ | refine blk_drew ?_ | refine blk_alloc ?_ _)); exact BK574.out) hb); have n3_ := Aside0.mk (below_step (by repeat (first | (with_reducible first | exact HB.out | apply below_alloc | apply pw_below_drewN | apply below_drew1 | refine below_set ?_ GE572.out | refine below_set ?_ GE573.out | refine below_set ?_ GE574.out) | exact HB.out)) hb); clear BK572; clear BK573; clear BK574; clear HB; have BK572 := n0_; have BK573 := n1_; have BK574 := n2_; have HB := n3_; clear n0_ n1_ n2_ n3_; (try clear hb); (try clear hb2); (try clear hk); (try clear hi); have hnb17 := NB573_574.out; have hnc17 := NB574_573.out; have hcz18_0 : w16.cell? ⟨gb573, 0, none⟩ = some (.int .i64 a2_0) := (blk_cell BK573.out 0).trans rfl; have hcz18_1 : w16.cell? ⟨gb573, 1, none⟩ = some (.int .i64 a2_1) := (blk_cell BK573.out 1).trans rfl; have hcz18_2 : w16.cell? ⟨gb573, 2, none⟩ = some (.string a2_2) := (blk_cell BK573.out 2).trans rfl; have hfz18_0 := blk_frozen BK573.out 0; have hfz18_1 := blk_frozen BK573.out 1; have hfz18_2 := blk_frozen BK573.out 2) | (go_at_call 20; (with_reducible refine (spec_ValidValue.calls k a2_0 a2_1 a2_2 true _ A10.out).mono ?_); rintro e w19 ⟨rfl, hb⟩; have n0_ := Aside0.mk (blk_below (g := gb572) (o := .cells #[.int .i64 a1_0, .int .i64 a1_1, .string a1_2] 34 (0, 0)) (by (with_reducible repeat (first | refine blk_drewN ?_ _ | refine blk_drew ?_ | refine blk_alloc ?_ _)); exact BK572.out) hb); have n1_ := Aside0.mk (blk_below (g := gb573) (o := .cells #[.int .i64 a2_0, .int .i64 a2_1, .string a2_2] 34 (0, 0)) (by (with_reducible repeat (first | refine blk_drewN ?_ _ | refine blk_drew ?_ | refine blk_alloc ?_ _)); exact BK573.out) hb); have n2_ := Aside0.mk (blk_below (g := gb574) (o := .cells #[.int .i64 0, .int .i64 0, .string (⟨#[]⟩ : ByteArray)] 34 (0, 0)) (by (with_reducible repeat (first | refine blk_drewN ?_ _ | refine blk_drew ?_ | refine blk_alloc ?_ _)); exact BK574.out) hb); have n3_ := Aside0.mk (below_step (by repeat (first | (with_reducible first | exact HB.out | apply below_alloc | apply pw_below_drewN | apply below_drew1 | refine below_set ?_ GE572.out | refine below_set ?_ GE573.out | refine below_set ?_ GE574.out) | exact HB.out)) hb); clear BK572; clear BK573; clear BK574; clear HB; have BK572 := n0_; have BK573 := n1_; have BK574 := n2_; have HB := n3_; clear n0_ n1_ n2_ n3_; (try clear hb); (try clear hb2); (try clear hk); (try clear hi)))
          go_meet
          case rel => exact ⟨_, (true), (by first | rfl | (simp; done) | (simp [*]; done)), H', ⟨by first | omega | exact Nat.le_refl _⟩, ⟨by (with_reducible repeat (first | refine blk_drewN ?_ _ | refine blk_drew ?_ | refine blk_alloc ?_ _)); exact BK572.out⟩, ⟨by (with_reducible repeat (first | refine blk_drewN ?_ _ | refine blk_drew ?_ | refine blk_alloc ?_ _)); exact BK573.out⟩, ⟨by (with_reducible repeat (first | refine blk_drewN ?_ _ | refine blk_drew ?_ | refine blk_alloc ?_ _)); exact BK574.out⟩, ⟨by repeat (first | (with_reducible first | exact HB.out | apply below_alloc | apply pw_below_drewN | apply below_drew1 | refine below_set ?_ GE572.out | refine below_set ?_ GE573.out | refine below_set ?_ GE574.out) | exact HB.out)⟩⟩
        · rw [if_neg c12] at H
          have c12b0 : decide (a0 < 1) = false := decide_eq_false c12
          clear c12
          (first | rw [c12b0] | (simp only [i64_w, i32_w]; rw [c12b0]) | rw [c12b4] | rw [c12b3] | skip)
          by_cases c20 : a0 > 18
          · rw [if_pos c20] at H
            have c20b0 : decide (18 < a0) = true := decide_eq_true c20
            clear c20
            have H' := Aside0.mk H
            clear H
            have hnb21 := NB572_573.out
            have hnc21 := NB573_572.out
            have hnb22 := NB572_574.out
            have hnc22 := NB574_572.out
            have hcz23_0 : w7.cell? ⟨gb572, 0, none⟩ = some (.int .i64 a1_0) := (blk_cell BK572.out 0).trans rfl
            have hcz23_1 : w7.cell? ⟨gb572, 1, none⟩ = some (.int .i64 a1_1) := (blk_cell BK572.out 1).trans rfl
            have hcz23_2 : w7.cell? ⟨gb572, 2, none⟩ = some (.string a1_2) := (blk_cell BK572.out 2).trans rfl
            have hfz23_0 := blk_frozen BK572.out 0
            have hfz23_1 := blk_frozen BK572.out 1
            have hfz23_2 := blk_frozen BK572.out 2
            go_wp2_with (first | ((with_reducible refine gate_callee (f := 20) rfl ?_); refine goesL_ (some 13) rfl rfl Try.func20 (by kernel_rfl) rfl #[.agg #[.int .i64 a1_0, .int .i64 a1_1, .string a1_2]] rfl (by (try simp only [List.map_toArray, List.map_cons, List.map_nil]); first | done | rfl | (simp only [List.length_drop, List.length_take]; rfl)) ?_; (with_reducible refine (spec_ValidValue.calls k a1_0 a1_1 a1_2 true _ A8.out).mono ?_); rintro e w24 ⟨rfl, hb⟩; refine ⟨_, rfl, ?_⟩; have n0_ := Aside0.mk (blk_below (g := gb572) (o := .cells #[.int .i64 a1_0, .int .i64 a1_1, .string a1_2] 34 (0, 0)) (by (with_reducible repeat (first | refine blk_drewN ?_ _ | refine blk_drew ?_ | refine blk_alloc ?_ _)); exact BK572.out) hb); have n1_ := Aside0.mk (blk_below (g := gb573) (o := .cells #[.int .i64 a2_0, .int .i64 a2_1, .string a2_2] 34 (0, 0)) (by (with_reducible repeat (first | refine blk_drewN ?_ _ | refine blk_drew ?_ | refine blk_alloc ?_ _)); exact BK573.out) hb); have n2_ := Aside0.mk (blk_below (g := gb574) (o := .cells #[.int .i64 0, .int .i64 0, .string (⟨#[]⟩ : ByteArray)] 34 (0, 0)) (by (with_reducible repeat (first | refine blk_drewN ?_ _ | refine blk_drew ?_ | refine blk_alloc ?_ _)); exact BK574.out) hb); have n3_ := Aside0.mk (below_step (by repeat (first | (with_reducible first | exact HB.out | apply below_alloc | apply pw_below_drewN | apply below_drew1 | refine below_set ?_ GE572.out | refine below_set ?_ GE573.out | refine below_set ?_ GE574.out) | exact HB.out)) hb); clear BK572; clear BK573; clear BK574; clear HB; have BK572 := n0_; have BK573 := n1_; have BK574 := n2_; have HB := n3_; clear n0_ n1_ n2_ n3_; (try clear hb); (try clear hb2); (try clear hk); (try clear hi); have hnb25 := NB573_574.out; have hnc25 := NB574_573.out; have hcz26_0 : w24.cell? ⟨gb573, 0, none⟩ = some (.int .i64 a2_0) := (blk_cell BK573.out 0).trans rfl; have hcz26_1 : w24.cell? ⟨gb573, 1, none⟩ = some (.int .i64 a2_1) := (blk_cell BK573.out 1).trans rfl; have hcz26_2 : w24.cell? ⟨gb573, 2, none⟩ = some (.string a2_2) := (blk_cell BK573.out 2).trans rfl; have hfz26_0 := blk_frozen BK573.out 0; have hfz26_1 := blk_frozen BK573.out 1; have hfz26_2 := blk_frozen BK573.out 2) | (go_at_call 20; (with_reducible refine (spec_ValidValue.calls k a2_0 a2_1 a2_2 true _ A10.out).mono ?_); rintro e w27 ⟨rfl, hb⟩; have n0_ := Aside0.mk (blk_below (g := gb572) (o := .cells #[.int .i64 a1_0, .int .i64 a1_1, .string a1_2] 34 (0, 0)) (by (with_reducible repeat (first | refine blk_drewN ?_ _ | refine blk_drew ?_ | refine blk_alloc ?_ _)); exact BK572.out) hb); have n1_ := Aside0.mk (blk_below (g := gb573) (o := .cells #[.int .i64 a2_0, .int .i64 a2_1, .string a2_2] 34 (0, 0)) (by (with_reducible repeat (first | refine blk_drewN ?_ _ | refine blk_drew ?_ | refine blk_alloc ?_ _)); exact BK573.out) hb); have n2_ := Aside0.mk (blk_below (g := gb574) (o := .cells #[.int .i64 0, .int .i64 0, .string (⟨#[]⟩ : ByteArray)] 34 (0, 0)) (by (with_reducible repeat (first | refine blk_drewN ?_ _ | refine blk_drew ?_ | refine blk_alloc ?_ _)); exact BK574.out) hb); have n3_ := Aside0.mk (below_step (by repeat (first | (with_reducible first | exact HB.out | apply below_alloc | apply pw_below_drewN | apply below_drew1 | refine below_set ?_ GE572.out | refine below_set ?_ GE573.out | refine below_set ?_ GE574.out) | exact HB.out)) hb); clear BK572; clear BK573; clear BK574; clear HB; have BK572 := n0_; have BK573 := n1_; have BK574 := n2_; have HB := n3_; clear n0_ n1_ n2_ n3_; (try clear hb); (try clear hb2); (try clear hk); (try clear hi)))
            go_meet
            case rel => exact ⟨_, (true), (by first | rfl | (simp; done) | (simp [*]; done)), H', ⟨by first | omega | exact Nat.le_refl _⟩, ⟨by (with_reducible repeat (first | refine blk_drewN ?_ _ | refine blk_drew ?_ | refine blk_alloc ?_ _)); exact BK572.out⟩, ⟨by (with_reducible repeat (first | refine blk_drewN ?_ _ | refine blk_drew ?_ | refine blk_alloc ?_ _)); exact BK573.out⟩, ⟨by (with_reducible repeat (first | refine blk_drewN ?_ _ | refine blk_drew ?_ | refine blk_alloc ?_ _)); exact BK574.out⟩, ⟨by repeat (first | (with_reducible first | exact HB.out | apply below_alloc | apply pw_below_drewN | apply below_drew1 | refine below_set ?_ GE572.out | refine below_set ?_ GE573.out | refine below_set ?_ GE574.out) | exact HB.out)⟩⟩
          · rw [if_neg c20] at H
            have c20b0 : decide (18 < a0) = false := decide_eq_false c20
            clear c20
            replace H := Option.bind_eq_some_iff.mp H
            obtain ⟨t577, A280, H⟩ := H
            replace H : (spec_Binary.j0 k a0 (t577 == 0) a1_0 a1_1 a1_2 a2_0 a2_1 a2_2) = some (r1, r2, r3, r4) := H
            have A28 := Aside0.mk A280
            clear A280
            have H' := Aside0.mk H
            clear H
            have hnb29 := NB572_573.out
            have hnc29 := NB573_572.out
            have hnb30 := NB572_574.out
            have hnc30 := NB574_572.out
            have hcz31_0 : w7.cell? ⟨gb572, 0, none⟩ = some (.int .i64 a1_0) := (blk_cell BK572.out 0).trans rfl
            have hcz31_1 : w7.cell? ⟨gb572, 1, none⟩ = some (.int .i64 a1_1) := (blk_cell BK572.out 1).trans rfl
            have hcz31_2 : w7.cell? ⟨gb572, 2, none⟩ = some (.string a1_2) := (blk_cell BK572.out 2).trans rfl
            have hfz31_0 := blk_frozen BK572.out 0
            have hfz31_1 := blk_frozen BK572.out 1
            have hfz31_2 := blk_frozen BK572.out 2
            go_wp2_with (first | ((with_reducible refine gate_callee (f := 20) rfl ?_); refine goesL_ (some 13) rfl rfl Try.func20 (by kernel_rfl) rfl #[.agg #[.int .i64 a1_0, .int .i64 a1_1, .string a1_2]] rfl (by (try simp only [List.map_toArray, List.map_cons, List.map_nil]); first | done | rfl | (simp only [List.length_drop, List.length_take]; rfl)) ?_; (with_reducible refine (spec_ValidValue.calls k a1_0 a1_1 a1_2 true _ A8.out).mono ?_); rintro e w32 ⟨rfl, hb⟩; refine ⟨_, rfl, ?_⟩; have n0_ := Aside0.mk (blk_below (g := gb572) (o := .cells #[.int .i64 a1_0, .int .i64 a1_1, .string a1_2] 34 (0, 0)) (by (with_reducible repeat (first | refine blk_drewN ?_ _ | refine blk_drew ?_ | refine blk_alloc ?_ _)); exact BK572.out) hb); have n1_ := Aside0.mk (blk_below (g := gb573) (o := .cells #[.int .i64 a2_0, .int .i64 a2_1, .string a2_2] 34 (0, 0)) (by (with_reducible repeat (first | refine blk_drewN ?_ _ | refine blk_drew ?_ | refine blk_alloc ?_ _)); exact BK573.out) hb); have n2_ := Aside0.mk (blk_below (g := gb574) (o := .cells #[.int .i64 0, .int .i64 0, .string (⟨#[]⟩ : ByteArray)] 34 (0, 0)) (by (with_reducible repeat (first | refine blk_drewN ?_ _ | refine blk_drew ?_ | refine blk_alloc ?_ _)); exact BK574.out) hb); have n3_ := Aside0.mk (below_step (by repeat (first | (with_reducible first | exact HB.out | apply below_alloc | apply pw_below_drewN | apply below_drew1 | refine below_set ?_ GE572.out | refine below_set ?_ GE573.out | refine below_set ?_ GE574.out) | exact HB.out)) hb); clear BK572; clear BK573; clear BK574; clear HB; have BK572 := n0_; have BK573 := n1_; have BK574 := n2_; have HB := n3_; clear n0_ n1_ n2_ n3_; (try clear hb); (try clear hb2); (try clear hk); (try clear hi); have hnb33 := NB573_574.out; have hnc33 := NB574_573.out; have hcz34_0 : w32.cell? ⟨gb573, 0, none⟩ = some (.int .i64 a2_0) := (blk_cell BK573.out 0).trans rfl; have hcz34_1 : w32.cell? ⟨gb573, 1, none⟩ = some (.int .i64 a2_1) := (blk_cell BK573.out 1).trans rfl; have hcz34_2 : w32.cell? ⟨gb573, 2, none⟩ = some (.string a2_2) := (blk_cell BK573.out 2).trans rfl; have hfz34_0 := blk_frozen BK573.out 0; have hfz34_1 := blk_frozen BK573.out 1; have hfz34_2 := blk_frozen BK573.out 2) | (go_at_call 20; (with_reducible refine (spec_ValidValue.calls k a2_0 a2_1 a2_2 true _ A10.out).mono ?_); rintro e w35 ⟨rfl, hb⟩; have n0_ := Aside0.mk (blk_below (g := gb572) (o := .cells #[.int .i64 a1_0, .int .i64 a1_1, .string a1_2] 34 (0, 0)) (by (with_reducible repeat (first | refine blk_drewN ?_ _ | refine blk_drew ?_ | refine blk_alloc ?_ _)); exact BK572.out) hb); have n1_ := Aside0.mk (blk_below (g := gb573) (o := .cells #[.int .i64 a2_0, .int .i64 a2_1, .string a2_2] 34 (0, 0)) (by (with_reducible repeat (first | refine blk_drewN ?_ _ | refine blk_drew ?_ | refine blk_alloc ?_ _)); exact BK573.out) hb); have n2_ := Aside0.mk (blk_below (g := gb574) (o := .cells #[.int .i64 0, .int .i64 0, .string (⟨#[]⟩ : ByteArray)] 34 (0, 0)) (by (with_reducible repeat (first | refine blk_drewN ?_ _ | refine blk_drew ?_ | refine blk_alloc ?_ _)); exact BK574.out) hb); have n3_ := Aside0.mk (below_step (by repeat (first | (with_reducible first | exact HB.out | apply below_alloc | apply pw_below_drewN | apply below_drew1 | refine below_set ?_ GE572.out | refine below_set ?_ GE573.out | refine below_set ?_ GE574.out) | exact HB.out)) hb); clear BK572; clear BK573; clear BK574; clear HB; have BK572 := n0_; have BK573 := n1_; have BK574 := n2_; have HB := n3_; clear n0_ n1_ n2_ n3_; (try clear hb); (try clear hb2); (try clear hk); (try clear hi); have hcz36_0 : w35.cell? ⟨gb572, 0, none⟩ = some (.int .i64 a1_0) := (blk_cell BK572.out 0).trans rfl; have hcz36_1 : w35.cell? ⟨gb572, 1, none⟩ = some (.int .i64 a1_1) := (blk_cell BK572.out 1).trans rfl; have hcz36_2 : w35.cell? ⟨gb572, 2, none⟩ = some (.string a1_2) := (blk_cell BK572.out 2).trans rfl; have hfz36_0 := blk_frozen BK572.out 0; have hfz36_1 := blk_frozen BK572.out 1; have hfz36_2 := blk_frozen BK572.out 2; have hcz37_0 : w35.cell? ⟨gb573, 0, none⟩ = some (.int .i64 a2_0) := (blk_cell BK573.out 0).trans rfl; have hcz37_1 : w35.cell? ⟨gb573, 1, none⟩ = some (.int .i64 a2_1) := (blk_cell BK573.out 1).trans rfl; have hcz37_2 : w35.cell? ⟨gb573, 2, none⟩ = some (.string a2_2) := (blk_cell BK573.out 2).trans rfl; have hfz37_0 := blk_frozen BK573.out 0; have hfz37_1 := blk_frozen BK573.out 1; have hfz37_2 := blk_frozen BK573.out 2) | (go_at_call 96; (with_reducible refine (spec_l3Bin.calls k a0 a1_0 a2_0 t577 _ A28.out).mono ?_); rintro e w' ⟨rfl, ⟨nd, rfl⟩⟩))
            go_meet
            case rel => exact ⟨_, ((t577 == 0)), (by first | rfl | (simp; done) | (simp [*]; done)), H', ⟨by first | omega | exact Nat.le_refl _⟩, ⟨by (with_reducible repeat (first | refine blk_drewN ?_ _ | refine blk_drew ?_ | refine blk_alloc ?_ _)); exact BK572.out⟩, ⟨by (with_reducible repeat (first | refine blk_drewN ?_ _ | refine blk_drew ?_ | refine blk_alloc ?_ _)); exact BK573.out⟩, ⟨by (with_reducible repeat (first | refine blk_drewN ?_ _ | refine blk_drew ?_ | refine blk_alloc ?_ _)); exact BK574.out⟩, ⟨by repeat (first | (with_reducible first | exact HB.out | apply below_alloc | apply pw_below_drewN | apply below_drew1 | refine below_set ?_ GE572.out | refine below_set ?_ GE573.out | refine below_set ?_ GE574.out) | exact HB.out)⟩⟩
      · replace c11 := Bool.eq_false_iff.mpr c11
        subst c11
        have H1 : (spec_Binary.j0 k a0 true a1_0 a1_1 a1_2 a2_0 a2_1 a2_2) = some (r1, r2, r3, r4) := by rw [if_neg (show ¬ (false = true) by decide)] at H; exact H
        clear H
        have H := H1
        clear H1
        have H' := Aside0.mk H
        clear H
        have hnb38 := NB572_573.out
        have hnc38 := NB573_572.out
        have hnb39 := NB572_574.out
        have hnc39 := NB574_572.out
        have hcz40_0 : w7.cell? ⟨gb572, 0, none⟩ = some (.int .i64 a1_0) := (blk_cell BK572.out 0).trans rfl
        have hcz40_1 : w7.cell? ⟨gb572, 1, none⟩ = some (.int .i64 a1_1) := (blk_cell BK572.out 1).trans rfl
        have hcz40_2 : w7.cell? ⟨gb572, 2, none⟩ = some (.string a1_2) := (blk_cell BK572.out 2).trans rfl
        have hfz40_0 := blk_frozen BK572.out 0
        have hfz40_1 := blk_frozen BK572.out 1
        have hfz40_2 := blk_frozen BK572.out 2
        go_wp2_with (first | ((with_reducible refine gate_callee (f := 20) rfl ?_); refine goesL_ (some 13) rfl rfl Try.func20 (by kernel_rfl) rfl #[.agg #[.int .i64 a1_0, .int .i64 a1_1, .string a1_2]] rfl (by (try simp only [List.map_toArray, List.map_cons, List.map_nil]); first | done | rfl | (simp only [List.length_drop, List.length_take]; rfl)) ?_; (with_reducible refine (spec_ValidValue.calls k a1_0 a1_1 a1_2 true _ A8.out).mono ?_); rintro e w41 ⟨rfl, hb⟩; refine ⟨_, rfl, ?_⟩; have n0_ := Aside0.mk (blk_below (g := gb572) (o := .cells #[.int .i64 a1_0, .int .i64 a1_1, .string a1_2] 34 (0, 0)) (by (with_reducible repeat (first | refine blk_drewN ?_ _ | refine blk_drew ?_ | refine blk_alloc ?_ _)); exact BK572.out) hb); have n1_ := Aside0.mk (blk_below (g := gb573) (o := .cells #[.int .i64 a2_0, .int .i64 a2_1, .string a2_2] 34 (0, 0)) (by (with_reducible repeat (first | refine blk_drewN ?_ _ | refine blk_drew ?_ | refine blk_alloc ?_ _)); exact BK573.out) hb); have n2_ := Aside0.mk (blk_below (g := gb574) (o := .cells #[.int .i64 0, .int .i64 0, .string (⟨#[]⟩ : ByteArray)] 34 (0, 0)) (by (with_reducible repeat (first | refine blk_drewN ?_ _ | refine blk_drew ?_ | refine blk_alloc ?_ _)); exact BK574.out) hb); have n3_ := Aside0.mk (below_step (by repeat (first | (with_reducible first | exact HB.out | apply below_alloc | apply pw_below_drewN | apply below_drew1 | refine below_set ?_ GE572.out | refine below_set ?_ GE573.out | refine below_set ?_ GE574.out) | exact HB.out)) hb); clear BK572; clear BK573; clear BK574; clear HB; have BK572 := n0_; have BK573 := n1_; have BK574 := n2_; have HB := n3_; clear n0_ n1_ n2_ n3_; (try clear hb); (try clear hb2); (try clear hk); (try clear hi); have hnb42 := NB573_574.out; have hnc42 := NB574_573.out; have hcz43_0 : w41.cell? ⟨gb573, 0, none⟩ = some (.int .i64 a2_0) := (blk_cell BK573.out 0).trans rfl; have hcz43_1 : w41.cell? ⟨gb573, 1, none⟩ = some (.int .i64 a2_1) := (blk_cell BK573.out 1).trans rfl; have hcz43_2 : w41.cell? ⟨gb573, 2, none⟩ = some (.string a2_2) := (blk_cell BK573.out 2).trans rfl; have hfz43_0 := blk_frozen BK573.out 0; have hfz43_1 := blk_frozen BK573.out 1; have hfz43_2 := blk_frozen BK573.out 2) | (go_at_call 20; (with_reducible refine (spec_ValidValue.calls k a2_0 a2_1 a2_2 false _ A10.out).mono ?_); rintro e w44 ⟨rfl, hb⟩; have n0_ := Aside0.mk (blk_below (g := gb572) (o := .cells #[.int .i64 a1_0, .int .i64 a1_1, .string a1_2] 34 (0, 0)) (by (with_reducible repeat (first | refine blk_drewN ?_ _ | refine blk_drew ?_ | refine blk_alloc ?_ _)); exact BK572.out) hb); have n1_ := Aside0.mk (blk_below (g := gb573) (o := .cells #[.int .i64 a2_0, .int .i64 a2_1, .string a2_2] 34 (0, 0)) (by (with_reducible repeat (first | refine blk_drewN ?_ _ | refine blk_drew ?_ | refine blk_alloc ?_ _)); exact BK573.out) hb); have n2_ := Aside0.mk (blk_below (g := gb574) (o := .cells #[.int .i64 0, .int .i64 0, .string (⟨#[]⟩ : ByteArray)] 34 (0, 0)) (by (with_reducible repeat (first | refine blk_drewN ?_ _ | refine blk_drew ?_ | refine blk_alloc ?_ _)); exact BK574.out) hb); have n3_ := Aside0.mk (below_step (by repeat (first | (with_reducible first | exact HB.out | apply below_alloc | apply pw_below_drewN | apply below_drew1 | refine below_set ?_ GE572.out | refine below_set ?_ GE573.out | refine below_set ?_ GE574.out) | exact HB.out)) hb); clear BK572; clear BK573; clear BK574; clear HB; have BK572 := n0_; have BK573 := n1_; have BK574 := n2_; have HB := n3_; clear n0_ n1_ n2_ n3_; (try clear hb); (try clear hb2); (try clear hk); (try clear hi)))
        go_meet
        case rel => exact ⟨_, (true), (by first | rfl | (simp; done) | (simp [*]; done)), H', ⟨by first | omega | exact Nat.le_refl _⟩, ⟨by (with_reducible repeat (first | refine blk_drewN ?_ _ | refine blk_drew ?_ | refine blk_alloc ?_ _)); exact BK572.out⟩, ⟨by (with_reducible repeat (first | refine blk_drewN ?_ _ | refine blk_drew ?_ | refine blk_alloc ?_ _)); exact BK573.out⟩, ⟨by (with_reducible repeat (first | refine blk_drewN ?_ _ | refine blk_drew ?_ | refine blk_alloc ?_ _)); exact BK574.out⟩, ⟨by repeat (first | (with_reducible first | exact HB.out | apply below_alloc | apply pw_below_drewN | apply below_drew1 | refine below_set ?_ GE572.out | refine below_set ?_ GE573.out | refine below_set ?_ GE574.out) | exact HB.out)⟩⟩
    · replace c9 := Bool.eq_false_iff.mpr c9
      subst c9
      have H1 : (spec_Binary.j0 k a0 true a1_0 a1_1 a1_2 a2_0 a2_1 a2_2) = some (r1, r2, r3, r4) := by rw [if_neg (show ¬ (false = true) by decide)] at H; exact H
      clear H
      have H := H1
      clear H1
      have H' := Aside0.mk H
      clear H
      have hnb45 := NB572_573.out
      have hnc45 := NB573_572.out
      have hnb46 := NB572_574.out
      have hnc46 := NB574_572.out
      have hcz47_0 : w7.cell? ⟨gb572, 0, none⟩ = some (.int .i64 a1_0) := (blk_cell BK572.out 0).trans rfl
      have hcz47_1 : w7.cell? ⟨gb572, 1, none⟩ = some (.int .i64 a1_1) := (blk_cell BK572.out 1).trans rfl
      have hcz47_2 : w7.cell? ⟨gb572, 2, none⟩ = some (.string a1_2) := (blk_cell BK572.out 2).trans rfl
      have hfz47_0 := blk_frozen BK572.out 0
      have hfz47_1 := blk_frozen BK572.out 1
      have hfz47_2 := blk_frozen BK572.out 2
      go_wp2_with (first | ((with_reducible refine gate_callee (f := 20) rfl ?_); refine goesL_ (some 13) rfl rfl Try.func20 (by kernel_rfl) rfl #[.agg #[.int .i64 a1_0, .int .i64 a1_1, .string a1_2]] rfl (by (try simp only [List.map_toArray, List.map_cons, List.map_nil]); first | done | rfl | (simp only [List.length_drop, List.length_take]; rfl)) ?_; (with_reducible refine (spec_ValidValue.calls k a1_0 a1_1 a1_2 false _ A8.out).mono ?_); rintro e w48 ⟨rfl, hb⟩; refine ⟨_, rfl, ?_⟩; have n0_ := Aside0.mk (blk_below (g := gb572) (o := .cells #[.int .i64 a1_0, .int .i64 a1_1, .string a1_2] 34 (0, 0)) (by (with_reducible repeat (first | refine blk_drewN ?_ _ | refine blk_drew ?_ | refine blk_alloc ?_ _)); exact BK572.out) hb); have n1_ := Aside0.mk (blk_below (g := gb573) (o := .cells #[.int .i64 a2_0, .int .i64 a2_1, .string a2_2] 34 (0, 0)) (by (with_reducible repeat (first | refine blk_drewN ?_ _ | refine blk_drew ?_ | refine blk_alloc ?_ _)); exact BK573.out) hb); have n2_ := Aside0.mk (blk_below (g := gb574) (o := .cells #[.int .i64 0, .int .i64 0, .string (⟨#[]⟩ : ByteArray)] 34 (0, 0)) (by (with_reducible repeat (first | refine blk_drewN ?_ _ | refine blk_drew ?_ | refine blk_alloc ?_ _)); exact BK574.out) hb); have n3_ := Aside0.mk (below_step (by repeat (first | (with_reducible first | exact HB.out | apply below_alloc | apply pw_below_drewN | apply below_drew1 | refine below_set ?_ GE572.out | refine below_set ?_ GE573.out | refine below_set ?_ GE574.out) | exact HB.out)) hb); clear BK572; clear BK573; clear BK574; clear HB; have BK572 := n0_; have BK573 := n1_; have BK574 := n2_; have HB := n3_; clear n0_ n1_ n2_ n3_; (try clear hb); (try clear hb2); (try clear hk); (try clear hi)))
      go_meet
      case rel => exact ⟨_, (true), (by first | rfl | (simp; done) | (simp [*]; done)), H', ⟨by first | omega | exact Nat.le_refl _⟩, ⟨by (with_reducible repeat (first | refine blk_drewN ?_ _ | refine blk_drew ?_ | refine blk_alloc ?_ _)); exact BK572.out⟩, ⟨by (with_reducible repeat (first | refine blk_drewN ?_ _ | refine blk_drew ?_ | refine blk_alloc ?_ _)); exact BK573.out⟩, ⟨by (with_reducible repeat (first | refine blk_drewN ?_ _ | refine blk_drew ?_ | refine blk_alloc ?_ _)); exact BK574.out⟩, ⟨by repeat (first | (with_reducible first | exact HB.out | apply below_alloc | apply pw_below_drewN | apply below_drew1 | refine below_set ?_ GE572.out | refine below_set ?_ GE573.out | refine below_set ?_ GE574.out) | exact HB.out)⟩⟩
  case rest =>
    clear HC4
    try clear c1
    try clear c2
    try clear p2
    try clear c3
    try clear c4
    try clear c5
    try clear c9
    try clear c11
    try clear c12
    try clear c12b0
    try clear c13
    try clear c14
    try clear c17
    try clear c20
    try clear c20b0
    try clear c21
    try clear c22
    try clear c25
    try clear c29
    try clear c30
    try clear c33
    try clear c38
    try clear c39
    try clear c42
    try clear c45
    try clear c46
    try clear hcz15_0
    try clear hcz15_1
    try clear hcz15_2
    try clear hcz18_0
    try clear hcz18_1
    try clear hcz18_2
    try clear hcz23_0
    try clear hcz23_1
    try clear hcz23_2
    try clear hcz26_0
    try clear hcz26_1
    try clear hcz26_2
    try clear hcz31_0
    try clear hcz31_1
    try clear hcz31_2
    try clear hcz34_0
    try clear hcz34_1
    try clear hcz34_2
    try clear hcz36_0
    try clear hcz36_1
    try clear hcz36_2
    try clear hcz37_0
    try clear hcz37_1
    try clear hcz37_2
    try clear hcz40_0
    try clear hcz40_1
    try clear hcz40_2
    try clear hcz43_0
    try clear hcz43_1
    try clear hcz43_2
    try clear hcz47_0
    try clear hcz47_1
    try clear hcz47_2
    try clear hfz15_0
    try clear hfz15_1
    try clear hfz15_2
    try clear hfz18_0
    try clear hfz18_1
    try clear hfz18_2
    try clear hfz23_0
    try clear hfz23_1
    try clear hfz23_2
    try clear hfz26_0
    try clear hfz26_1
    try clear hfz26_2
    try clear hfz31_0
    try clear hfz31_1
    try clear hfz31_2
    try clear hfz34_0
    try clear hfz34_1
    try clear hfz34_2
    try clear hfz36_0
    try clear hfz36_1
    try clear hfz36_2
    try clear hfz37_0
    try clear hfz37_1
    try clear hfz37_2
    try clear hfz40_0
    try clear hfz40_1
    try clear hfz40_2
    try clear hfz43_0
    try clear hfz43_1
    try clear hfz43_2
    try clear hfz47_0
    try clear hfz47_1
    try clear hfz47_2
    obtain ⟨kq, x36_3, rfl, HA, HJ3, BK572, BK573, BK574, HB⟩ := hcut
    cases kq with
    | zero => exact absurd HA.out (by simp [spec_Binary.j0])
    | succ kj3 =>
      have H := HA.out
      clear HA
      simp only [spec_Binary.j0] at H
      by_cases c49 : x36_3 = true
      · subst c49
        have H1 : (some (0, 0, (⟨#[]⟩ : ByteArray), (⟨#[116, 121, 112, 101]⟩ : ByteArray))) = some (r1, r2, r3, r4) := by rw [if_pos rfl] at H; exact H
        clear H
        have H := H1
        clear H1
        simp only [Option.some.injEq, Prod.mk.injEq] at H
        obtain ⟨rfl, rfl, rfl, rfl⟩ := H
        have hnb50 := NB574_572.out
        have hnc50 := NB572_574.out
        have hnb51 := NB574_573.out
        have hnc51 := NB573_574.out
        have hcz52_0 : wc.cell? ⟨gb574, 0, none⟩ = some (.int .i64 0) := (blk_cell BK574.out 0).trans rfl
        have hcz52_1 : wc.cell? ⟨gb574, 1, none⟩ = some (.int .i64 0) := (blk_cell BK574.out 1).trans rfl
        have hcz52_2 : wc.cell? ⟨gb574, 2, none⟩ = some (.string (⟨#[]⟩ : ByteArray)) := (blk_cell BK574.out 2).trans rfl
        have hfz52_0 := blk_frozen BK574.out 0
        have hfz52_1 := blk_frozen BK574.out 1
        have hfz52_2 := blk_frozen BK574.out 2
        go_wp2
        refine bodyPost_ret (results_ct rfl _ _ gb574 34 #[.int .i64 0, .int .i64 0, .string (⟨#[]⟩ : ByteArray)] (0, 0) _ rfl (by (with_reducible repeat (first | refine blk_drewN ?_ _ | refine blk_drew ?_ | refine blk_alloc ?_ _)); refine blk_put (cs := #[.int .i64 0, .int .i64 0, .string (⟨#[]⟩ : ByteArray)]) ?_ 2 _ rfl; (with_reducible repeat (first | refine blk_drewN ?_ _ | refine blk_drew ?_ | refine blk_alloc ?_ _)); refine blk_put (cs := #[.int .i64 0, .int .i64 0, .string (⟨#[]⟩ : ByteArray)]) ?_ 1 _ rfl; (with_reducible repeat (first | refine blk_drewN ?_ _ | refine blk_drew ?_ | refine blk_alloc ?_ _)); refine blk_put (cs := #[.int .i64 0, .int .i64 0, .string (⟨#[]⟩ : ByteArray)]) ?_ 0 _ rfl; (with_reducible repeat (first | refine blk_drewN ?_ _ | refine blk_drew ?_ | refine blk_alloc ?_ _)); exact BK574.out) Try.underlying34 rfl (by kernel_rfl)) rfl ?_
        exact ⟨by first | rfl | (simp [errW_none, errW_some] <;> rfl) | (simp [*, errW_none, errW_some] <;> rfl), by repeat (first | (with_reducible first | exact HB.out | apply below_alloc | apply pw_below_drewN | apply below_drew1 | refine below_set ?_ GE572.out | refine below_set ?_ GE573.out | refine below_set ?_ GE574.out) | exact HB.out)⟩
      · replace c49 := Bool.eq_false_iff.mpr c49
        subst c49
        have H1 : (if a0 = 1 then (if a1_1 = 1 then ((spec_l4Bool.f true).bind fun bt578 => (some (bt578.1, bt578.2.1, bt578.2.2, (⟨#[]⟩ : ByteArray)))) else ((spec_l4Bool.f (a2_1 == 1)).bind fun bt581 => (some (bt581.1, bt581.2.1, bt581.2.2, (⟨#[]⟩ : ByteArray))))) else (if a0 = 2 then (if a1_1 = 1 then ((spec_l4Bool.f (a2_1 == 1)).bind fun bt584 => (some (bt584.1, bt584.2.1, bt584.2.2, (⟨#[]⟩ : ByteArray)))) else ((spec_l4Bool.f false).bind fun bt587 => (some (bt587.1, bt587.2.1, bt587.2.2, (⟨#[]⟩ : ByteArray))))) else (if a0 = 3 then (spec_Binary.j1 kj3 a0 (IntKind.u64.wrap (a1_1)) (IntKind.u64.wrap (a2_1)) a0 (a0 == 3) a1_0 a1_1 a1_2 a2_0 a2_1 a2_2) else (if a0 = 4 then (spec_Binary.j1 kj3 a0 (IntKind.u64.wrap (a1_1)) (IntKind.u64.wrap (a2_1)) a0 (a0 == 4) a1_0 a1_1 a1_2 a2_0 a2_1 a2_2) else (if a0 = 5 then (spec_Binary.j1 kj3 a0 (IntKind.u64.wrap (a1_1)) (IntKind.u64.wrap (a2_1)) a0 (a0 == 5) a1_0 a1_1 a1_2 a2_0 a2_1 a2_2) else (if a0 = 6 then (spec_Binary.j1 kj3 a0 (IntKind.u64.wrap (a1_1)) (IntKind.u64.wrap (a2_1)) a0 (a0 == 6) a1_0 a1_1 a1_2 a2_0 a2_1 a2_2) else (if a0 = 7 then (spec_Binary.j1 kj3 a0 (IntKind.u64.wrap (a1_1)) (IntKind.u64.wrap (a2_1)) a0 (a0 == 7) a1_0 a1_1 a1_2 a2_0 a2_1 a2_2) else (spec_Binary.j1 kj3 a0 (IntKind.u64.wrap (a1_1)) (IntKind.u64.wrap (a2_1)) a0 (a0 == 8) a1_0 a1_1 a1_2 a2_0 a2_1 a2_2)))))))) = some (r1, r2, r3, r4) := by rw [if_neg (show ¬ (false = true) by decide)] at H; exact H
        clear H
        have H := H1
        clear H1
        by_cases c53 : a0 = 1
        · rw [if_pos c53] at H
          have c53b0 : (a0 == 1) = true := beq_iff_eq.mpr c53
          have c53b1 : (a0 != 1) = false := bne_eq_false_iff_eq.mpr c53
          clear c53
          by_cases c54 : a1_1 = 1
          · rw [if_pos c54] at H
            have c54b0 : (a1_1 == 1) = true := beq_iff_eq.mpr c54
            have c54b1 : (a1_1 != 1) = false := bne_eq_false_iff_eq.mpr c54
            clear c54
            replace H := Option.bind_eq_some_iff.mp H
            obtain ⟨⟨t578, t579, t580⟩, A550, H⟩ := H
            replace H : (some (t578, t579, t580, (⟨#[]⟩ : ByteArray))) = some (r1, r2, r3, r4) := H
            have A55 := Aside0.mk A550
            clear A550
            simp only [Option.some.injEq, Prod.mk.injEq] at H
            obtain ⟨rfl, rfl, rfl, rfl⟩ := H
            have hnb56 := NB572_573.out
            have hnc56 := NB573_572.out
            have hnb57 := NB572_574.out
            have hnc57 := NB574_572.out
            have hcz58_0 : wc.cell? ⟨gb572, 0, none⟩ = some (.int .i64 a1_0) := (blk_cell BK572.out 0).trans rfl
            have hcz58_1 : wc.cell? ⟨gb572, 1, none⟩ = some (.int .i64 a1_1) := (blk_cell BK572.out 1).trans rfl
            have hcz58_2 : wc.cell? ⟨gb572, 2, none⟩ = some (.string a1_2) := (blk_cell BK572.out 2).trans rfl
            have hfz58_0 := blk_frozen BK572.out 0
            have hfz58_1 := blk_frozen BK572.out 1
            have hfz58_2 := blk_frozen BK572.out 2
            have hnb59 := NB573_574.out
            have hnc59 := NB574_573.out
            have hcz60_0 : wc.cell? ⟨gb573, 0, none⟩ = some (.int .i64 a2_0) := (blk_cell BK573.out 0).trans rfl
            have hcz60_1 : wc.cell? ⟨gb573, 1, none⟩ = some (.int .i64 a2_1) := (blk_cell BK573.out 1).trans rfl
            have hcz60_2 : wc.cell? ⟨gb573, 2, none⟩ = some (.string a2_2) := (blk_cell BK573.out 2).trans rfl
            have hfz60_0 := blk_frozen BK573.out 0
            have hfz60_1 := blk_frozen BK573.out 1
            have hfz60_2 := blk_frozen BK573.out 2
            go_wp2_with (first | ((with_reducible refine gate_callee (f := 70) rfl ?_); refine goesL_ (some 55) rfl rfl Try.func70 (by kernel_rfl) rfl #[.bool true] rfl (by (try simp only [List.map_toArray, List.map_cons, List.map_nil]); first | done | rfl | (simp only [List.length_drop, List.length_take]; rfl)) ?_; (with_reducible refine (spec_l4Bool.calls true t578 t579 t580 _ A55.out).mono ?_); rintro e w61 ⟨rfl, hb⟩; refine ⟨_, rfl, ?_⟩; have n0_ := Aside0.mk (blk_below (g := gb572) (o := .cells #[.int .i64 a1_0, .int .i64 a1_1, .string a1_2] 34 (0, 0)) (by (with_reducible repeat (first | refine blk_drewN ?_ _ | refine blk_drew ?_ | refine blk_alloc ?_ _)); exact BK572.out) hb); have n1_ := Aside0.mk (blk_below (g := gb573) (o := .cells #[.int .i64 a2_0, .int .i64 a2_1, .string a2_2] 34 (0, 0)) (by (with_reducible repeat (first | refine blk_drewN ?_ _ | refine blk_drew ?_ | refine blk_alloc ?_ _)); exact BK573.out) hb); have n2_ := Aside0.mk (blk_below (g := gb574) (o := .cells #[.int .i64 0, .int .i64 0, .string (⟨#[]⟩ : ByteArray)] 34 (0, 0)) (by (with_reducible repeat (first | refine blk_drewN ?_ _ | refine blk_drew ?_ | refine blk_alloc ?_ _)); exact BK574.out) hb); have n3_ := Aside0.mk (below_step (by repeat (first | (with_reducible first | exact HB.out | apply below_alloc | apply pw_below_drewN | apply below_drew1 | refine below_set ?_ GE572.out | refine below_set ?_ GE573.out | refine below_set ?_ GE574.out) | exact HB.out)) hb); clear BK572; clear BK573; clear BK574; clear HB; have BK572 := n0_; have BK573 := n1_; have BK574 := n2_; have HB := n3_; clear n0_ n1_ n2_ n3_; (try clear hb); (try clear hb2); (try clear hk); (try clear hi); have hcz62_0 : w61.cell? ⟨gb574, 0, none⟩ = some (.int .i64 0) := (blk_cell BK574.out 0).trans rfl; have hcz62_1 : w61.cell? ⟨gb574, 1, none⟩ = some (.int .i64 0) := (blk_cell BK574.out 1).trans rfl; have hcz62_2 : w61.cell? ⟨gb574, 2, none⟩ = some (.string (⟨#[]⟩ : ByteArray)) := (blk_cell BK574.out 2).trans rfl; have hfz62_0 := blk_frozen BK574.out 0; have hfz62_1 := blk_frozen BK574.out 1; have hfz62_2 := blk_frozen BK574.out 2))
            refine bodyPost_ret (results_ct rfl _ _ gb574 34 #[.int .i64 t578, .int .i64 t579, .string t580] (0, 0) _ rfl (by (with_reducible repeat (first | refine blk_drewN ?_ _ | refine blk_drew ?_ | refine blk_alloc ?_ _)); refine blk_put (cs := #[.int .i64 t578, .int .i64 t579, .string (⟨#[]⟩ : ByteArray)]) ?_ 2 _ rfl; (with_reducible repeat (first | refine blk_drewN ?_ _ | refine blk_drew ?_ | refine blk_alloc ?_ _)); refine blk_put (cs := #[.int .i64 t578, .int .i64 0, .string (⟨#[]⟩ : ByteArray)]) ?_ 1 _ rfl; (with_reducible repeat (first | refine blk_drewN ?_ _ | refine blk_drew ?_ | refine blk_alloc ?_ _)); refine blk_put (cs := #[.int .i64 0, .int .i64 0, .string (⟨#[]⟩ : ByteArray)]) ?_ 0 _ rfl; (with_reducible repeat (first | refine blk_drewN ?_ _ | refine blk_drew ?_ | refine blk_alloc ?_ _)); exact BK574.out) Try.underlying34 rfl (by kernel_rfl)) rfl ?_
            exact ⟨by first | rfl | (simp [errW_none, errW_some] <;> rfl) | (simp [*, errW_none, errW_some] <;> rfl), by repeat (first | (with_reducible first | exact HB.out | apply below_alloc | apply pw_below_drewN | apply below_drew1 | refine below_set ?_ GE572.out | refine below_set ?_ GE573.out | refine below_set ?_ GE574.out) | exact HB.out)⟩
          · rw [if_neg c54] at H
            have c54b0 : (a1_1 == 1) = false := beq_eq_false_iff_ne.mpr c54
            have c54b1 : (a1_1 != 1) = true := bne_iff_ne.mpr c54
            replace H := Option.bind_eq_some_iff.mp H
            obtain ⟨⟨t581, t582, t583⟩, A630, H⟩ := H
            replace H : (some (t581, t582, t583, (⟨#[]⟩ : ByteArray))) = some (r1, r2, r3, r4) := H
            have A63 := Aside0.mk A630
            clear A630
            simp only [Option.some.injEq, Prod.mk.injEq] at H
            obtain ⟨rfl, rfl, rfl, rfl⟩ := H
            have hnb64 := NB572_573.out
            have hnc64 := NB573_572.out
            have hnb65 := NB572_574.out
            have hnc65 := NB574_572.out
            have hcz66_0 : wc.cell? ⟨gb572, 0, none⟩ = some (.int .i64 a1_0) := (blk_cell BK572.out 0).trans rfl
            have hcz66_1 : wc.cell? ⟨gb572, 1, none⟩ = some (.int .i64 a1_1) := (blk_cell BK572.out 1).trans rfl
            have hcz66_2 : wc.cell? ⟨gb572, 2, none⟩ = some (.string a1_2) := (blk_cell BK572.out 2).trans rfl
            have hfz66_0 := blk_frozen BK572.out 0
            have hfz66_1 := blk_frozen BK572.out 1
            have hfz66_2 := blk_frozen BK572.out 2
            have hnb67 := NB573_574.out
            have hnc67 := NB574_573.out
            have hcz68_0 : wc.cell? ⟨gb573, 0, none⟩ = some (.int .i64 a2_0) := (blk_cell BK573.out 0).trans rfl
            have hcz68_1 : wc.cell? ⟨gb573, 1, none⟩ = some (.int .i64 a2_1) := (blk_cell BK573.out 1).trans rfl
            have hcz68_2 : wc.cell? ⟨gb573, 2, none⟩ = some (.string a2_2) := (blk_cell BK573.out 2).trans rfl
            have hfz68_0 := blk_frozen BK573.out 0
            have hfz68_1 := blk_frozen BK573.out 1
            have hfz68_2 := blk_frozen BK573.out 2
            go_wp2_with (first | ((with_reducible refine gate_callee (f := 70) rfl ?_); refine goesL_ (some 55) rfl rfl Try.func70 (by kernel_rfl) rfl #[.bool (a2_1 == 1)] rfl (by (try simp only [List.map_toArray, List.map_cons, List.map_nil]); first | done | rfl | (simp only [List.length_drop, List.length_take]; rfl)) ?_; (with_reducible refine (spec_l4Bool.calls (a2_1 == 1) t581 t582 t583 _ A63.out).mono ?_); rintro e w69 ⟨rfl, hb⟩; refine ⟨_, rfl, ?_⟩; have n0_ := Aside0.mk (blk_below (g := gb572) (o := .cells #[.int .i64 a1_0, .int .i64 a1_1, .string a1_2] 34 (0, 0)) (by (with_reducible repeat (first | refine blk_drewN ?_ _ | refine blk_drew ?_ | refine blk_alloc ?_ _)); exact BK572.out) hb); have n1_ := Aside0.mk (blk_below (g := gb573) (o := .cells #[.int .i64 a2_0, .int .i64 a2_1, .string a2_2] 34 (0, 0)) (by (with_reducible repeat (first | refine blk_drewN ?_ _ | refine blk_drew ?_ | refine blk_alloc ?_ _)); exact BK573.out) hb); have n2_ := Aside0.mk (blk_below (g := gb574) (o := .cells #[.int .i64 0, .int .i64 0, .string (⟨#[]⟩ : ByteArray)] 34 (0, 0)) (by (with_reducible repeat (first | refine blk_drewN ?_ _ | refine blk_drew ?_ | refine blk_alloc ?_ _)); exact BK574.out) hb); have n3_ := Aside0.mk (below_step (by repeat (first | (with_reducible first | exact HB.out | apply below_alloc | apply pw_below_drewN | apply below_drew1 | refine below_set ?_ GE572.out | refine below_set ?_ GE573.out | refine below_set ?_ GE574.out) | exact HB.out)) hb); clear BK572; clear BK573; clear BK574; clear HB; have BK572 := n0_; have BK573 := n1_; have BK574 := n2_; have HB := n3_; clear n0_ n1_ n2_ n3_; (try clear hb); (try clear hb2); (try clear hk); (try clear hi); have hcz70_0 : w69.cell? ⟨gb574, 0, none⟩ = some (.int .i64 0) := (blk_cell BK574.out 0).trans rfl; have hcz70_1 : w69.cell? ⟨gb574, 1, none⟩ = some (.int .i64 0) := (blk_cell BK574.out 1).trans rfl; have hcz70_2 : w69.cell? ⟨gb574, 2, none⟩ = some (.string (⟨#[]⟩ : ByteArray)) := (blk_cell BK574.out 2).trans rfl; have hfz70_0 := blk_frozen BK574.out 0; have hfz70_1 := blk_frozen BK574.out 1; have hfz70_2 := blk_frozen BK574.out 2))
            refine bodyPost_ret (results_ct rfl _ _ gb574 34 #[.int .i64 t581, .int .i64 t582, .string t583] (0, 0) _ rfl (by (with_reducible repeat (first | refine blk_drewN ?_ _ | refine blk_drew ?_ | refine blk_alloc ?_ _)); refine blk_put (cs := #[.int .i64 t581, .int .i64 t582, .string (⟨#[]⟩ : ByteArray)]) ?_ 2 _ rfl; (with_reducible repeat (first | refine blk_drewN ?_ _ | refine blk_drew ?_ | refine blk_alloc ?_ _)); refine blk_put (cs := #[.int .i64 t581, .int .i64 0, .string (⟨#[]⟩ : ByteArray)]) ?_ 1 _ rfl; (with_reducible repeat (first | refine blk_drewN ?_ _ | refine blk_drew ?_ | refine blk_alloc ?_ _)); refine blk_put (cs := #[.int .i64 0, .int .i64 0, .string (⟨#[]⟩ : ByteArray)]) ?_ 0 _ rfl; (with_reducible repeat (first | refine blk_drewN ?_ _ | refine blk_drew ?_ | refine blk_alloc ?_ _)); exact BK574.out) Try.underlying34 rfl (by kernel_rfl)) rfl ?_
            exact ⟨by first | rfl | (simp [errW_none, errW_some] <;> rfl) | (simp [*, errW_none, errW_some] <;> rfl), by repeat (first | (with_reducible first | exact HB.out | apply below_alloc | apply pw_below_drewN | apply below_drew1 | refine below_set ?_ GE572.out | refine below_set ?_ GE573.out | refine below_set ?_ GE574.out) | exact HB.out)⟩
        · rw [if_neg c53] at H
          have c53b0 : (a0 == 1) = false := beq_eq_false_iff_ne.mpr c53
          have c53b1 : (a0 != 1) = true := bne_iff_ne.mpr c53
          by_cases c71 : a0 = 2
          · rw [if_pos c71] at H
            have c71b0 : (a0 == 2) = true := beq_iff_eq.mpr c71
            have c71b1 : (a0 != 2) = false := bne_eq_false_iff_eq.mpr c71
            clear c71
            by_cases c72 : a1_1 = 1
            · rw [if_pos c72] at H
              have c72b0 : (a1_1 == 1) = true := beq_iff_eq.mpr c72
              have c72b1 : (a1_1 != 1) = false := bne_eq_false_iff_eq.mpr c72
              clear c72
              replace H := Option.bind_eq_some_iff.mp H
              obtain ⟨⟨t584, t585, t586⟩, A730, H⟩ := H
              replace H : (some (t584, t585, t586, (⟨#[]⟩ : ByteArray))) = some (r1, r2, r3, r4) := H
              have A73 := Aside0.mk A730
              clear A730
              simp only [Option.some.injEq, Prod.mk.injEq] at H
              obtain ⟨rfl, rfl, rfl, rfl⟩ := H
              have hnb74 := NB572_573.out
              have hnc74 := NB573_572.out
              have hnb75 := NB572_574.out
              have hnc75 := NB574_572.out
              have hcz76_0 : wc.cell? ⟨gb572, 0, none⟩ = some (.int .i64 a1_0) := (blk_cell BK572.out 0).trans rfl
              have hcz76_1 : wc.cell? ⟨gb572, 1, none⟩ = some (.int .i64 a1_1) := (blk_cell BK572.out 1).trans rfl
              have hcz76_2 : wc.cell? ⟨gb572, 2, none⟩ = some (.string a1_2) := (blk_cell BK572.out 2).trans rfl
              have hfz76_0 := blk_frozen BK572.out 0
              have hfz76_1 := blk_frozen BK572.out 1
              have hfz76_2 := blk_frozen BK572.out 2
              have hnb77 := NB573_574.out
              have hnc77 := NB574_573.out
              have hcz78_0 : wc.cell? ⟨gb573, 0, none⟩ = some (.int .i64 a2_0) := (blk_cell BK573.out 0).trans rfl
              have hcz78_1 : wc.cell? ⟨gb573, 1, none⟩ = some (.int .i64 a2_1) := (blk_cell BK573.out 1).trans rfl
              have hcz78_2 : wc.cell? ⟨gb573, 2, none⟩ = some (.string a2_2) := (blk_cell BK573.out 2).trans rfl
              have hfz78_0 := blk_frozen BK573.out 0
              have hfz78_1 := blk_frozen BK573.out 1
              have hfz78_2 := blk_frozen BK573.out 2
              go_wp2_with (first | ((with_reducible refine gate_callee (f := 70) rfl ?_); refine goesL_ (some 66) rfl rfl Try.func70 (by kernel_rfl) rfl #[.bool (a2_1 == 1)] rfl (by (try simp only [List.map_toArray, List.map_cons, List.map_nil]); first | done | rfl | (simp only [List.length_drop, List.length_take]; rfl)) ?_; (with_reducible refine (spec_l4Bool.calls (a2_1 == 1) t584 t585 t586 _ A73.out).mono ?_); rintro e w79 ⟨rfl, hb⟩; refine ⟨_, rfl, ?_⟩; have n0_ := Aside0.mk (blk_below (g := gb572) (o := .cells #[.int .i64 a1_0, .int .i64 a1_1, .string a1_2] 34 (0, 0)) (by (with_reducible repeat (first | refine blk_drewN ?_ _ | refine blk_drew ?_ | refine blk_alloc ?_ _)); exact BK572.out) hb); have n1_ := Aside0.mk (blk_below (g := gb573) (o := .cells #[.int .i64 a2_0, .int .i64 a2_1, .string a2_2] 34 (0, 0)) (by (with_reducible repeat (first | refine blk_drewN ?_ _ | refine blk_drew ?_ | refine blk_alloc ?_ _)); exact BK573.out) hb); have n2_ := Aside0.mk (blk_below (g := gb574) (o := .cells #[.int .i64 0, .int .i64 0, .string (⟨#[]⟩ : ByteArray)] 34 (0, 0)) (by (with_reducible repeat (first | refine blk_drewN ?_ _ | refine blk_drew ?_ | refine blk_alloc ?_ _)); exact BK574.out) hb); have n3_ := Aside0.mk (below_step (by repeat (first | (with_reducible first | exact HB.out | apply below_alloc | apply pw_below_drewN | apply below_drew1 | refine below_set ?_ GE572.out | refine below_set ?_ GE573.out | refine below_set ?_ GE574.out) | exact HB.out)) hb); clear BK572; clear BK573; clear BK574; clear HB; have BK572 := n0_; have BK573 := n1_; have BK574 := n2_; have HB := n3_; clear n0_ n1_ n2_ n3_; (try clear hb); (try clear hb2); (try clear hk); (try clear hi); have hcz80_0 : w79.cell? ⟨gb574, 0, none⟩ = some (.int .i64 0) := (blk_cell BK574.out 0).trans rfl; have hcz80_1 : w79.cell? ⟨gb574, 1, none⟩ = some (.int .i64 0) := (blk_cell BK574.out 1).trans rfl; have hcz80_2 : w79.cell? ⟨gb574, 2, none⟩ = some (.string (⟨#[]⟩ : ByteArray)) := (blk_cell BK574.out 2).trans rfl; have hfz80_0 := blk_frozen BK574.out 0; have hfz80_1 := blk_frozen BK574.out 1; have hfz80_2 := blk_frozen BK574.out 2))
              refine bodyPost_ret (results_ct rfl _ _ gb574 34 #[.int .i64 t584, .int .i64 t585, .string t586] (0, 0) _ rfl (by (with_reducible repeat (first | refine blk_drewN ?_ _ | refine blk_drew ?_ | refine blk_alloc ?_ _)); refine blk_put (cs := #[.int .i64 t584, .int .i64 t585, .string (⟨#[]⟩ : ByteArray)]) ?_ 2 _ rfl; (with_reducible repeat (first | refine blk_drewN ?_ _ | refine blk_drew ?_ | refine blk_alloc ?_ _)); refine blk_put (cs := #[.int .i64 t584, .int .i64 0, .string (⟨#[]⟩ : ByteArray)]) ?_ 1 _ rfl; (with_reducible repeat (first | refine blk_drewN ?_ _ | refine blk_drew ?_ | refine blk_alloc ?_ _)); refine blk_put (cs := #[.int .i64 0, .int .i64 0, .string (⟨#[]⟩ : ByteArray)]) ?_ 0 _ rfl; (with_reducible repeat (first | refine blk_drewN ?_ _ | refine blk_drew ?_ | refine blk_alloc ?_ _)); exact BK574.out) Try.underlying34 rfl (by kernel_rfl)) rfl ?_
              exact ⟨by first | rfl | (simp [errW_none, errW_some] <;> rfl) | (simp [*, errW_none, errW_some] <;> rfl), by repeat (first | (with_reducible first | exact HB.out | apply below_alloc | apply pw_below_drewN | apply below_drew1 | refine below_set ?_ GE572.out | refine below_set ?_ GE573.out | refine below_set ?_ GE574.out) | exact HB.out)⟩
            · rw [if_neg c72] at H
              have c72b0 : (a1_1 == 1) = false := beq_eq_false_iff_ne.mpr c72
              have c72b1 : (a1_1 != 1) = true := bne_iff_ne.mpr c72
              replace H := Option.bind_eq_some_iff.mp H
              obtain ⟨⟨t587, t588, t589⟩, A810, H⟩ := H
              replace H : (some (t587, t588, t589, (⟨#[]⟩ : ByteArray))) = some (r1, r2, r3, r4) := H
              have A81 := Aside0.mk A810
              clear A810
              simp only [Option.some.injEq, Prod.mk.injEq] at H
              obtain ⟨rfl, rfl, rfl, rfl⟩ := H
              have hnb82 := NB572_573.out
              have hnc82 := NB573_572.out
              have hnb83 := NB572_574.out
              have hnc83 := NB574_572.out
              have hcz84_0 : wc.cell? ⟨gb572, 0, none⟩ = some (.int .i64 a1_0) := (blk_cell BK572.out 0).trans rfl
              have hcz84_1 : wc.cell? ⟨gb572, 1, none⟩ = some (.int .i64 a1_1) := (blk_cell BK572.out 1).trans rfl
              have hcz84_2 : wc.cell? ⟨gb572, 2, none⟩ = some (.string a1_2) := (blk_cell BK572.out 2).trans rfl
              have hfz84_0 := blk_frozen BK572.out 0
              have hfz84_1 := blk_frozen BK572.out 1
              have hfz84_2 := blk_frozen BK572.out 2
              have hnb85 := NB573_574.out
              have hnc85 := NB574_573.out
              have hcz86_0 : wc.cell? ⟨gb573, 0, none⟩ = some (.int .i64 a2_0) := (blk_cell BK573.out 0).trans rfl
              have hcz86_1 : wc.cell? ⟨gb573, 1, none⟩ = some (.int .i64 a2_1) := (blk_cell BK573.out 1).trans rfl
              have hcz86_2 : wc.cell? ⟨gb573, 2, none⟩ = some (.string a2_2) := (blk_cell BK573.out 2).trans rfl
              have hfz86_0 := blk_frozen BK573.out 0
              have hfz86_1 := blk_frozen BK573.out 1
              have hfz86_2 := blk_frozen BK573.out 2
              go_wp2_with (first | ((with_reducible refine gate_callee (f := 70) rfl ?_); refine goesL_ (some 66) rfl rfl Try.func70 (by kernel_rfl) rfl #[.bool false] rfl (by (try simp only [List.map_toArray, List.map_cons, List.map_nil]); first | done | rfl | (simp only [List.length_drop, List.length_take]; rfl)) ?_; (with_reducible refine (spec_l4Bool.calls false t587 t588 t589 _ A81.out).mono ?_); rintro e w87 ⟨rfl, hb⟩; refine ⟨_, rfl, ?_⟩; have n0_ := Aside0.mk (blk_below (g := gb572) (o := .cells #[.int .i64 a1_0, .int .i64 a1_1, .string a1_2] 34 (0, 0)) (by (with_reducible repeat (first | refine blk_drewN ?_ _ | refine blk_drew ?_ | refine blk_alloc ?_ _)); exact BK572.out) hb); have n1_ := Aside0.mk (blk_below (g := gb573) (o := .cells #[.int .i64 a2_0, .int .i64 a2_1, .string a2_2] 34 (0, 0)) (by (with_reducible repeat (first | refine blk_drewN ?_ _ | refine blk_drew ?_ | refine blk_alloc ?_ _)); exact BK573.out) hb); have n2_ := Aside0.mk (blk_below (g := gb574) (o := .cells #[.int .i64 0, .int .i64 0, .string (⟨#[]⟩ : ByteArray)] 34 (0, 0)) (by (with_reducible repeat (first | refine blk_drewN ?_ _ | refine blk_drew ?_ | refine blk_alloc ?_ _)); exact BK574.out) hb); have n3_ := Aside0.mk (below_step (by repeat (first | (with_reducible first | exact HB.out | apply below_alloc | apply pw_below_drewN | apply below_drew1 | refine below_set ?_ GE572.out | refine below_set ?_ GE573.out | refine below_set ?_ GE574.out) | exact HB.out)) hb); clear BK572; clear BK573; clear BK574; clear HB; have BK572 := n0_; have BK573 := n1_; have BK574 := n2_; have HB := n3_; clear n0_ n1_ n2_ n3_; (try clear hb); (try clear hb2); (try clear hk); (try clear hi); have hcz88_0 : w87.cell? ⟨gb574, 0, none⟩ = some (.int .i64 0) := (blk_cell BK574.out 0).trans rfl; have hcz88_1 : w87.cell? ⟨gb574, 1, none⟩ = some (.int .i64 0) := (blk_cell BK574.out 1).trans rfl; have hcz88_2 : w87.cell? ⟨gb574, 2, none⟩ = some (.string (⟨#[]⟩ : ByteArray)) := (blk_cell BK574.out 2).trans rfl; have hfz88_0 := blk_frozen BK574.out 0; have hfz88_1 := blk_frozen BK574.out 1; have hfz88_2 := blk_frozen BK574.out 2))
              refine bodyPost_ret (results_ct rfl _ _ gb574 34 #[.int .i64 t587, .int .i64 t588, .string t589] (0, 0) _ rfl (by (with_reducible repeat (first | refine blk_drewN ?_ _ | refine blk_drew ?_ | refine blk_alloc ?_ _)); refine blk_put (cs := #[.int .i64 t587, .int .i64 t588, .string (⟨#[]⟩ : ByteArray)]) ?_ 2 _ rfl; (with_reducible repeat (first | refine blk_drewN ?_ _ | refine blk_drew ?_ | refine blk_alloc ?_ _)); refine blk_put (cs := #[.int .i64 t587, .int .i64 0, .string (⟨#[]⟩ : ByteArray)]) ?_ 1 _ rfl; (with_reducible repeat (first | refine blk_drewN ?_ _ | refine blk_drew ?_ | refine blk_alloc ?_ _)); refine blk_put (cs := #[.int .i64 0, .int .i64 0, .string (⟨#[]⟩ : ByteArray)]) ?_ 0 _ rfl; (with_reducible repeat (first | refine blk_drewN ?_ _ | refine blk_drew ?_ | refine blk_alloc ?_ _)); exact BK574.out) Try.underlying34 rfl (by kernel_rfl)) rfl ?_
              exact ⟨by first | rfl | (simp [errW_none, errW_some] <;> rfl) | (simp [*, errW_none, errW_some] <;> rfl), by repeat (first | (with_reducible first | exact HB.out | apply below_alloc | apply pw_below_drewN | apply below_drew1 | refine below_set ?_ GE572.out | refine below_set ?_ GE573.out | refine below_set ?_ GE574.out) | exact HB.out)⟩
          · rw [if_neg c71] at H
            have c71b0 : (a0 == 2) = false := beq_eq_false_iff_ne.mpr c71
            have c71b1 : (a0 != 2) = true := bne_iff_ne.mpr c71
            have HC89 := Aside0.mk H
            clear H
            have hnb90 := NB572_573.out
            have hnc90 := NB573_572.out
            have hnb91 := NB572_574.out
            have hnc91 := NB574_572.out
            have hcz92_0 : wc.cell? ⟨gb572, 0, none⟩ = some (.int .i64 a1_0) := (blk_cell BK572.out 0).trans rfl
            have hcz92_1 : wc.cell? ⟨gb572, 1, none⟩ = some (.int .i64 a1_1) := (blk_cell BK572.out 1).trans rfl
            have hcz92_2 : wc.cell? ⟨gb572, 2, none⟩ = some (.string a1_2) := (blk_cell BK572.out 2).trans rfl
            have hfz92_0 := blk_frozen BK572.out 0
            have hfz92_1 := blk_frozen BK572.out 1
            have hfz92_2 := blk_frozen BK572.out 2
            have hnb93 := NB573_574.out
            have hnc93 := NB574_573.out
            have hcz94_0 : wc.cell? ⟨gb573, 0, none⟩ = some (.int .i64 a2_0) := (blk_cell BK573.out 0).trans rfl
            have hcz94_1 : wc.cell? ⟨gb573, 1, none⟩ = some (.int .i64 a2_1) := (blk_cell BK573.out 1).trans rfl
            have hcz94_2 : wc.cell? ⟨gb573, 2, none⟩ = some (.string a2_2) := (blk_cell BK573.out 2).trans rfl
            have hfz94_0 := blk_frozen BK573.out 0
            have hfz94_1 := blk_frozen BK573.out 1
            have hfz94_2 := blk_frozen BK573.out 2
            go_upto_if 67 with (fail)
            go_cut [67] (fun v67 wc => ∃ (kq : Nat) (x67_88 : Bool), v67 = .bool x67_88 ∧ Aside0 (spec_Binary.j1 kq a0 (IntKind.u64.wrap (a1_1)) (IntKind.u64.wrap (a2_1)) a0 x67_88 a1_0 a1_1 a1_2 a2_0 a2_1 a2_2 = some (r1, r2, r3, r4)) ∧ Aside0 (kq ≤ kj3) ∧ Aside0 (wc.heap[gb572]? = some (.cells #[.int .i64 a1_0, .int .i64 a1_1, .string a1_2] 34 (0, 0))) ∧ Aside0 (wc.heap[gb573]? = some (.cells #[.int .i64 a2_0, .int .i64 a2_1, .string a2_2] 34 (0, 0))) ∧ Aside0 (wc.heap[gb574]? = some (.cells #[.int .i64 0, .int .i64 0, .string (⟨#[]⟩ : ByteArray)] 34 (0, 0))) ∧ Aside0 (Below w.heap.size w wc))
            case first =>
              have H := HC89.out
              clear HC89
              by_cases c95 : a0 = 3
              · rw [if_pos c95] at H
                have c95b0 : (a0 == 3) = true := beq_iff_eq.mpr c95
                have c95b1 : (a0 != 3) = false := bne_eq_false_iff_eq.mpr c95
                clear c95
                (first | rw [c95b0] | (simp only [i64_w, i32_w]; rw [c95b0]) | rw [c95b4] | rw [c95b3] | skip)
                have H' := Aside0.mk H
                clear H
                go_wp2
                go_meet
                case rel => exact ⟨_, ((a0 == 3)), (by first | rfl | (simp; done) | (simp [*]; done)), H', ⟨by have := HJ3.out; first | omega | exact Nat.le_refl _⟩, ⟨by (with_reducible repeat (first | refine blk_drewN ?_ _ | refine blk_drew ?_ | refine blk_alloc ?_ _)); exact BK572.out⟩, ⟨by (with_reducible repeat (first | refine blk_drewN ?_ _ | refine blk_drew ?_ | refine blk_alloc ?_ _)); exact BK573.out⟩, ⟨by (with_reducible repeat (first | refine blk_drewN ?_ _ | refine blk_drew ?_ | refine blk_alloc ?_ _)); exact BK574.out⟩, ⟨by repeat (first | (with_reducible first | exact HB.out | apply below_alloc | apply pw_below_drewN | apply below_drew1 | refine below_set ?_ GE572.out | refine below_set ?_ GE573.out | refine below_set ?_ GE574.out) | exact HB.out)⟩⟩
              · rw [if_neg c95] at H
                have c95b0 : (a0 == 3) = false := beq_eq_false_iff_ne.mpr c95
                have c95b1 : (a0 != 3) = true := bne_iff_ne.mpr c95
                (first | rw [c95b0] | (simp only [i64_w, i32_w]; rw [c95b0]) | rw [c95b4] | rw [c95b3] | skip)
                by_cases c96 : a0 = 4
                · rw [if_pos c96] at H
                  have c96b0 : (a0 == 4) = true := beq_iff_eq.mpr c96
                  have c96b1 : (a0 != 4) = false := bne_eq_false_iff_eq.mpr c96
                  clear c96
                  have H' := Aside0.mk H
                  clear H
                  go_wp2
                  go_meet
                  case rel => exact ⟨_, ((a0 == 4)), (by first | rfl | (simp; done) | (simp [*]; done)), H', ⟨by have := HJ3.out; first | omega | exact Nat.le_refl _⟩, ⟨by (with_reducible repeat (first | refine blk_drewN ?_ _ | refine blk_drew ?_ | refine blk_alloc ?_ _)); exact BK572.out⟩, ⟨by (with_reducible repeat (first | refine blk_drewN ?_ _ | refine blk_drew ?_ | refine blk_alloc ?_ _)); exact BK573.out⟩, ⟨by (with_reducible repeat (first | refine blk_drewN ?_ _ | refine blk_drew ?_ | refine blk_alloc ?_ _)); exact BK574.out⟩, ⟨by repeat (first | (with_reducible first | exact HB.out | apply below_alloc | apply pw_below_drewN | apply below_drew1 | refine below_set ?_ GE572.out | refine below_set ?_ GE573.out | refine below_set ?_ GE574.out) | exact HB.out)⟩⟩
                · rw [if_neg c96] at H
                  have c96b0 : (a0 == 4) = false := beq_eq_false_iff_ne.mpr c96
                  have c96b1 : (a0 != 4) = true := bne_iff_ne.mpr c96
                  by_cases c97 : a0 = 5
                  · rw [if_pos c97] at H
                    have c97b0 : (a0 == 5) = true := beq_iff_eq.mpr c97
                    have c97b1 : (a0 != 5) = false := bne_eq_false_iff_eq.mpr c97
                    clear c97
                    have H' := Aside0.mk H
                    clear H
                    go_wp2
                    go_meet
                    case rel => exact ⟨_, ((a0 == 5)), (by first | rfl | (simp; done) | (simp [*]; done)), H', ⟨by have := HJ3.out; first | omega | exact Nat.le_refl _⟩, ⟨by (with_reducible repeat (first | refine blk_drewN ?_ _ | refine blk_drew ?_ | refine blk_alloc ?_ _)); exact BK572.out⟩, ⟨by (with_reducible repeat (first | refine blk_drewN ?_ _ | refine blk_drew ?_ | refine blk_alloc ?_ _)); exact BK573.out⟩, ⟨by (with_reducible repeat (first | refine blk_drewN ?_ _ | refine blk_drew ?_ | refine blk_alloc ?_ _)); exact BK574.out⟩, ⟨by repeat (first | (with_reducible first | exact HB.out | apply below_alloc | apply pw_below_drewN | apply below_drew1 | refine below_set ?_ GE572.out | refine below_set ?_ GE573.out | refine below_set ?_ GE574.out) | exact HB.out)⟩⟩
                  · rw [if_neg c97] at H
                    have c97b0 : (a0 == 5) = false := beq_eq_false_iff_ne.mpr c97
                    have c97b1 : (a0 != 5) = true := bne_iff_ne.mpr c97
                    by_cases c98 : a0 = 6
                    · rw [if_pos c98] at H
                      have c98b0 : (a0 == 6) = true := beq_iff_eq.mpr c98
                      have c98b1 : (a0 != 6) = false := bne_eq_false_iff_eq.mpr c98
                      clear c98
                      have H' := Aside0.mk H
                      clear H
                      go_wp2
                      go_meet
                      case rel => exact ⟨_, ((a0 == 6)), (by first | rfl | (simp; done) | (simp [*]; done)), H', ⟨by have := HJ3.out; first | omega | exact Nat.le_refl _⟩, ⟨by (with_reducible repeat (first | refine blk_drewN ?_ _ | refine blk_drew ?_ | refine blk_alloc ?_ _)); exact BK572.out⟩, ⟨by (with_reducible repeat (first | refine blk_drewN ?_ _ | refine blk_drew ?_ | refine blk_alloc ?_ _)); exact BK573.out⟩, ⟨by (with_reducible repeat (first | refine blk_drewN ?_ _ | refine blk_drew ?_ | refine blk_alloc ?_ _)); exact BK574.out⟩, ⟨by repeat (first | (with_reducible first | exact HB.out | apply below_alloc | apply pw_below_drewN | apply below_drew1 | refine below_set ?_ GE572.out | refine below_set ?_ GE573.out | refine below_set ?_ GE574.out) | exact HB.out)⟩⟩
                    · rw [if_neg c98] at H
                      have c98b0 : (a0 == 6) = false := beq_eq_false_iff_ne.mpr c98
                      have c98b1 : (a0 != 6) = true := bne_iff_ne.mpr c98
                      by_cases c99 : a0 = 7
                      · rw [if_pos c99] at H
                        have c99b0 : (a0 == 7) = true := beq_iff_eq.mpr c99
                        have c99b1 : (a0 != 7) = false := bne_eq_false_iff_eq.mpr c99
                        clear c99
                        have H' := Aside0.mk H
                        clear H
                        go_wp2
                        go_meet
                        case rel => exact ⟨_, ((a0 == 7)), (by first | rfl | (simp; done) | (simp [*]; done)), H', ⟨by have := HJ3.out; first | omega | exact Nat.le_refl _⟩, ⟨by (with_reducible repeat (first | refine blk_drewN ?_ _ | refine blk_drew ?_ | refine blk_alloc ?_ _)); exact BK572.out⟩, ⟨by (with_reducible repeat (first | refine blk_drewN ?_ _ | refine blk_drew ?_ | refine blk_alloc ?_ _)); exact BK573.out⟩, ⟨by (with_reducible repeat (first | refine blk_drewN ?_ _ | refine blk_drew ?_ | refine blk_alloc ?_ _)); exact BK574.out⟩, ⟨by repeat (first | (with_reducible first | exact HB.out | apply below_alloc | apply pw_below_drewN | apply below_drew1 | refine below_set ?_ GE572.out | refine below_set ?_ GE573.out | refine below_set ?_ GE574.out) | exact HB.out)⟩⟩
                      · rw [if_neg c99] at H
                        have c99b0 : (a0 == 7) = false := beq_eq_false_iff_ne.mpr c99
                        have c99b1 : (a0 != 7) = true := bne_iff_ne.mpr c99
                        have H' := Aside0.mk H
                        clear H
                        go_wp2
                        go_meet
                        case rel => exact ⟨_, ((a0 == 8)), (by first | rfl | (simp; done) | (simp [*]; done)), H', ⟨by have := HJ3.out; first | omega | exact Nat.le_refl _⟩, ⟨by (with_reducible repeat (first | refine blk_drewN ?_ _ | refine blk_drew ?_ | refine blk_alloc ?_ _)); exact BK572.out⟩, ⟨by (with_reducible repeat (first | refine blk_drewN ?_ _ | refine blk_drew ?_ | refine blk_alloc ?_ _)); exact BK573.out⟩, ⟨by (with_reducible repeat (first | refine blk_drewN ?_ _ | refine blk_drew ?_ | refine blk_alloc ?_ _)); exact BK574.out⟩, ⟨by repeat (first | (with_reducible first | exact HB.out | apply below_alloc | apply pw_below_drewN | apply below_drew1 | refine below_set ?_ GE572.out | refine below_set ?_ GE573.out | refine below_set ?_ GE574.out) | exact HB.out)⟩⟩
            case rest =>
              clear HC89
              try clear c1
              try clear c2
              try clear p2
              try clear c3
              try clear c4
              try clear c5
              try clear c6
              try clear c7
              try clear c8
              try clear c9
              try clear c11
              try clear c12
              try clear c12b0
              try clear c13
              try clear c14
              try clear c17
              try clear c20
              try clear c20b0
              try clear c21
              try clear c22
              try clear c25
              try clear c29
              try clear c30
              try clear c33
              try clear c38
              try clear c39
              try clear c42
              try clear c45
              try clear c46
              try clear c49
              try clear c50
              try clear c51
              try clear c53
              try clear c53b0
              try clear c53b1
              try clear c54
              try clear c54b0
              try clear c54b1
              try clear c56
              try clear c57
              try clear c59
              try clear c64
              try clear c65
              try clear c67
              try clear c70
              try clear c71
              try clear c71b0
              try clear c71b1
              try clear c72
              try clear c72b0
              try clear c72b1
              try clear c74
              try clear c75
              try clear c77
              try clear c82
              try clear c83
              try clear c85
              try clear c90
              try clear c91
              try clear c93
              try clear c95
              try clear c95b0
              try clear c95b1
              try clear c96
              try clear c96b0
              try clear c96b1
              try clear c97
              try clear c97b0
              try clear c97b1
              try clear c98
              try clear c98b0
              try clear c98b1
              try clear c99
              try clear c99b0
              try clear c99b1
              try clear hcz15_0
              try clear hcz15_1
              try clear hcz15_2
              try clear hcz18_0
              try clear hcz18_1
              try clear hcz18_2
              try clear hcz23_0
              try clear hcz23_1
              try clear hcz23_2
              try clear hcz26_0
              try clear hcz26_1
              try clear hcz26_2
              try clear hcz31_0
              try clear hcz31_1
              try clear hcz31_2
              try clear hcz34_0
              try clear hcz34_1
              try clear hcz34_2
              try clear hcz36_0
              try clear hcz36_1
              try clear hcz36_2
              try clear hcz37_0
              try clear hcz37_1
              try clear hcz37_2
              try clear hcz40_0
              try clear hcz40_1
              try clear hcz40_2
              try clear hcz43_0
              try clear hcz43_1
              try clear hcz43_2
              try clear hcz47_0
              try clear hcz47_1
              try clear hcz47_2
              try clear hcz52_0
              try clear hcz52_1
              try clear hcz52_2
              try clear hcz58_0
              try clear hcz58_1
              try clear hcz58_2
              try clear hcz60_0
              try clear hcz60_1
              try clear hcz60_2
              try clear hcz62_0
              try clear hcz62_1
              try clear hcz62_2
              try clear hcz66_0
              try clear hcz66_1
              try clear hcz66_2
              try clear hcz68_0
              try clear hcz68_1
              try clear hcz68_2
              try clear hcz70_0
              try clear hcz70_1
              try clear hcz70_2
              try clear hcz76_0
              try clear hcz76_1
              try clear hcz76_2
              try clear hcz78_0
              try clear hcz78_1
              try clear hcz78_2
              try clear hcz80_0
              try clear hcz80_1
              try clear hcz80_2
              try clear hcz84_0
              try clear hcz84_1
              try clear hcz84_2
              try clear hcz86_0
              try clear hcz86_1
              try clear hcz86_2
              try clear hcz88_0
              try clear hcz88_1
              try clear hcz88_2
              try clear hcz92_0
              try clear hcz92_1
              try clear hcz92_2
              try clear hcz94_0
              try clear hcz94_1
              try clear hcz94_2
              try clear hfz15_0
              try clear hfz15_1
              try clear hfz15_2
              try clear hfz18_0
              try clear hfz18_1
              try clear hfz18_2
              try clear hfz23_0
              try clear hfz23_1
              try clear hfz23_2
              try clear hfz26_0
              try clear hfz26_1
              try clear hfz26_2
              try clear hfz31_0
              try clear hfz31_1
              try clear hfz31_2
              try clear hfz34_0
              try clear hfz34_1
              try clear hfz34_2
              try clear hfz36_0
              try clear hfz36_1
              try clear hfz36_2
              try clear hfz37_0
              try clear hfz37_1
              try clear hfz37_2
              try clear hfz40_0
              try clear hfz40_1
              try clear hfz40_2
              try clear hfz43_0
              try clear hfz43_1
              try clear hfz43_2
              try clear hfz47_0
              try clear hfz47_1
              try clear hfz47_2
              try clear hfz52_0
              try clear hfz52_1
              try clear hfz52_2
              try clear hfz58_0
              try clear hfz58_1
              try clear hfz58_2
              try clear hfz60_0
              try clear hfz60_1
              try clear hfz60_2
              try clear hfz62_0
              try clear hfz62_1
              try clear hfz62_2
              try clear hfz66_0
              try clear hfz66_1
              try clear hfz66_2
              try clear hfz68_0
              try clear hfz68_1
              try clear hfz68_2
              try clear hfz70_0
              try clear hfz70_1
              try clear hfz70_2
              try clear hfz76_0
              try clear hfz76_1
              try clear hfz76_2
              try clear hfz78_0
              try clear hfz78_1
              try clear hfz78_2
              try clear hfz80_0
              try clear hfz80_1
              try clear hfz80_2
              try clear hfz84_0
              try clear hfz84_1
              try clear hfz84_2
              try clear hfz86_0
              try clear hfz86_1
              try clear hfz86_2
              try clear hfz88_0
              try clear hfz88_1
              try clear hfz88_2
              try clear hfz92_0
              try clear hfz92_1
              try clear hfz92_2
              try clear hfz94_0
              try clear hfz94_1
              try clear hfz94_2
              try clear p2
              obtain ⟨kq, x67_88, rfl, HA, HJ88, BK572, BK573, BK574, HB⟩ := hcut
              cases kq with
              | zero => exact absurd HA.out (by simp [spec_Binary.j1])
              | succ kj88 =>
                have H := HA.out
                clear HA
                simp only [spec_Binary.j1] at H
                by_cases c100 : x67_88 = true
                · subst c100
                  have H1 : ((spec_l4Order.f a0 a1_0 a1_1 a1_2 a2_0 a2_1 a2_2).bind fun t590 => ((spec_l4Bool.f t590).bind fun bt591 => (some (bt591.1, bt591.2.1, bt591.2.2, (⟨#[]⟩ : ByteArray))))) = some (r1, r2, r3, r4) := by rw [if_pos rfl] at H; exact H
                  clear H
                  have H := H1
                  clear H1
                  replace H := Option.bind_eq_some_iff.mp H
                  obtain ⟨t590, A1010, H⟩ := H
                  replace H : ((spec_l4Bool.f t590).bind fun bt591 => (some (bt591.1, bt591.2.1, bt591.2.2, (⟨#[]⟩ : ByteArray)))) = some (r1, r2, r3, r4) := H
                  have A101 := Aside0.mk A1010
                  clear A1010
                  replace H := Option.bind_eq_some_iff.mp H
                  obtain ⟨⟨t591, t592, t593⟩, A1020, H⟩ := H
                  replace H : (some (t591, t592, t593, (⟨#[]⟩ : ByteArray))) = some (r1, r2, r3, r4) := H
                  have A102 := Aside0.mk A1020
                  clear A1020
                  simp only [Option.some.injEq, Prod.mk.injEq] at H
                  obtain ⟨rfl, rfl, rfl, rfl⟩ := H
                  have hnb103 := NB572_573.out
                  have hnc103 := NB573_572.out
                  have hnb104 := NB572_574.out
                  have hnc104 := NB574_572.out
                  have hcz105_0 : wc.cell? ⟨gb572, 0, none⟩ = some (.int .i64 a1_0) := (blk_cell BK572.out 0).trans rfl
                  have hcz105_1 : wc.cell? ⟨gb572, 1, none⟩ = some (.int .i64 a1_1) := (blk_cell BK572.out 1).trans rfl
                  have hcz105_2 : wc.cell? ⟨gb572, 2, none⟩ = some (.string a1_2) := (blk_cell BK572.out 2).trans rfl
                  have hfz105_0 := blk_frozen BK572.out 0
                  have hfz105_1 := blk_frozen BK572.out 1
                  have hfz105_2 := blk_frozen BK572.out 2
                  have hnb106 := NB573_574.out
                  have hnc106 := NB574_573.out
                  have hcz107_0 : wc.cell? ⟨gb573, 0, none⟩ = some (.int .i64 a2_0) := (blk_cell BK573.out 0).trans rfl
                  have hcz107_1 : wc.cell? ⟨gb573, 1, none⟩ = some (.int .i64 a2_1) := (blk_cell BK573.out 1).trans rfl
                  have hcz107_2 : wc.cell? ⟨gb573, 2, none⟩ = some (.string a2_2) := (blk_cell BK573.out 2).trans rfl
                  have hfz107_0 := blk_frozen BK573.out 0
                  have hfz107_1 := blk_frozen BK573.out 1
                  have hfz107_2 := blk_frozen BK573.out 2
                  go_wp2_with (first | ((with_reducible refine gate_callee (f := 97) rfl ?_); refine goesL_ (some 77) rfl rfl Try.func97 (by kernel_rfl) rfl #[.int .i64 a0, .agg #[.int .i64 a1_0, .int .i64 a1_1, .string a1_2], .agg #[.int .i64 a2_0, .int .i64 a2_1, .string a2_2]] rfl (by (try simp only [List.map_toArray, List.map_cons, List.map_nil]); first | done | rfl | (simp only [List.length_drop, List.length_take]; rfl)) ?_; (with_reducible refine (spec_l4Order.calls a0 a1_0 a1_1 a1_2 a2_0 a2_1 a2_2 t590 _ A101.out).mono ?_); rintro e w108 ⟨rfl, hb⟩; refine ⟨_, rfl, ?_⟩; have n0_ := Aside0.mk (blk_below (g := gb572) (o := .cells #[.int .i64 a1_0, .int .i64 a1_1, .string a1_2] 34 (0, 0)) (by (with_reducible repeat (first | refine blk_drewN ?_ _ | refine blk_drew ?_ | refine blk_alloc ?_ _)); exact BK572.out) hb); have n1_ := Aside0.mk (blk_below (g := gb573) (o := .cells #[.int .i64 a2_0, .int .i64 a2_1, .string a2_2] 34 (0, 0)) (by (with_reducible repeat (first | refine blk_drewN ?_ _ | refine blk_drew ?_ | refine blk_alloc ?_ _)); exact BK573.out) hb); have n2_ := Aside0.mk (blk_below (g := gb574) (o := .cells #[.int .i64 0, .int .i64 0, .string (⟨#[]⟩ : ByteArray)] 34 (0, 0)) (by (with_reducible repeat (first | refine blk_drewN ?_ _ | refine blk_drew ?_ | refine blk_alloc ?_ _)); exact BK574.out) hb); have n3_ := Aside0.mk (below_step (by repeat (first | (with_reducible first | exact HB.out | apply below_alloc | apply pw_below_drewN | apply below_drew1 | refine below_set ?_ GE572.out | refine below_set ?_ GE573.out | refine below_set ?_ GE574.out) | exact HB.out)) hb); clear BK572; clear BK573; clear BK574; clear HB; have BK572 := n0_; have BK573 := n1_; have BK574 := n2_; have HB := n3_; clear n0_ n1_ n2_ n3_; (try clear hb); (try clear hb2); (try clear hk); (try clear hi)) | ((with_reducible refine gate_callee (f := 70) rfl ?_); refine goesL_ (some 78) rfl rfl Try.func70 (by kernel_rfl) rfl #[.bool t590] rfl (by (try simp only [List.map_toArray, List.map_cons, List.map_nil]); first | done | rfl | (simp only [List.length_drop, List.length_take]; rfl)) ?_; (with_reducible refine (spec_l4Bool.calls t590 t591 t592 t593 _ A102.out).mono ?_); rintro e w109 ⟨rfl, hb⟩; refine ⟨_, rfl, ?_⟩; have n0_ := Aside0.mk (blk_below (g := gb572) (o := .cells #[.int .i64 a1_0, .int .i64 a1_1, .string a1_2] 34 (0, 0)) (by (with_reducible repeat (first | refine blk_drewN ?_ _ | refine blk_drew ?_ | refine blk_alloc ?_ _)); exact BK572.out) hb); have n1_ := Aside0.mk (blk_below (g := gb573) (o := .cells #[.int .i64 a2_0, .int .i64 a2_1, .string a2_2] 34 (0, 0)) (by (with_reducible repeat (first | refine blk_drewN ?_ _ | refine blk_drew ?_ | refine blk_alloc ?_ _)); exact BK573.out) hb); have n2_ := Aside0.mk (blk_below (g := gb574) (o := .cells #[.int .i64 0, .int .i64 0, .string (⟨#[]⟩ : ByteArray)] 34 (0, 0)) (by (with_reducible repeat (first | refine blk_drewN ?_ _ | refine blk_drew ?_ | refine blk_alloc ?_ _)); exact BK574.out) hb); have n3_ := Aside0.mk (below_step (by repeat (first | (with_reducible first | exact HB.out | apply below_alloc | apply pw_below_drewN | apply below_drew1 | refine below_set ?_ GE572.out | refine below_set ?_ GE573.out | refine below_set ?_ GE574.out) | exact HB.out)) hb); clear BK572; clear BK573; clear BK574; clear HB; have BK572 := n0_; have BK573 := n1_; have BK574 := n2_; have HB := n3_; clear n0_ n1_ n2_ n3_; (try clear hb); (try clear hb2); (try clear hk); (try clear hi); have hcz110_0 : w109.cell? ⟨gb574, 0, none⟩ = some (.int .i64 0) := (blk_cell BK574.out 0).trans rfl; have hcz110_1 : w109.cell? ⟨gb574, 1, none⟩ = some (.int .i64 0) := (blk_cell BK574.out 1).trans rfl; have hcz110_2 : w109.cell? ⟨gb574, 2, none⟩ = some (.string (⟨#[]⟩ : ByteArray)) := (blk_cell BK574.out 2).trans rfl; have hfz110_0 := blk_frozen BK574.out 0; have hfz110_1 := blk_frozen BK574.out 1; have hfz110_2 := blk_frozen BK574.out 2))
                  refine bodyPost_ret (results_ct rfl _ _ gb574 34 #[.int .i64 t591, .int .i64 t592, .string t593] (0, 0) _ rfl (by (with_reducible repeat (first | refine blk_drewN ?_ _ | refine blk_drew ?_ | refine blk_alloc ?_ _)); refine blk_put (cs := #[.int .i64 t591, .int .i64 t592, .string (⟨#[]⟩ : ByteArray)]) ?_ 2 _ rfl; (with_reducible repeat (first | refine blk_drewN ?_ _ | refine blk_drew ?_ | refine blk_alloc ?_ _)); refine blk_put (cs := #[.int .i64 t591, .int .i64 0, .string (⟨#[]⟩ : ByteArray)]) ?_ 1 _ rfl; (with_reducible repeat (first | refine blk_drewN ?_ _ | refine blk_drew ?_ | refine blk_alloc ?_ _)); refine blk_put (cs := #[.int .i64 0, .int .i64 0, .string (⟨#[]⟩ : ByteArray)]) ?_ 0 _ rfl; (with_reducible repeat (first | refine blk_drewN ?_ _ | refine blk_drew ?_ | refine blk_alloc ?_ _)); exact BK574.out) Try.underlying34 rfl (by kernel_rfl)) rfl ?_
                  exact ⟨by first | rfl | (simp [errW_none, errW_some] <;> rfl) | (simp [*, errW_none, errW_some] <;> rfl), by repeat (first | (with_reducible first | exact HB.out | apply below_alloc | apply pw_below_drewN | apply below_drew1 | refine below_set ?_ GE572.out | refine below_set ?_ GE573.out | refine below_set ?_ GE574.out) | exact HB.out)⟩
                · replace c100 := Bool.eq_false_iff.mpr c100
                  subst c100
                  have H1 : (if a0 = 9 then (if a1_0 = 2 then (if (wrap64 ((a1_2.size : Int) + (a2_2.size : Int))) > 3000 then (some (0, 0, (⟨#[]⟩ : ByteArray), (⟨#[108, 111, 110, 103]⟩ : ByteArray))) else (if a1_2.size + a2_2.size ≤ 9223372036854775807 then ((spec_l4Text.f (a1_2 ++ a2_2)).bind fun bt594 => (some (bt594.1, bt594.2.1, bt594.2.2, (⟨#[]⟩ : ByteArray)))) else (none))) else ((spec_l4Num.f kj88 a1_0 (IntKind.u64.wrap ((IntKind.u64.wrap (a1_1)) + (IntKind.u64.wrap (a2_1))))).bind fun bt597 => (some (bt597.1, bt597.2.1, bt597.2.2, (⟨#[]⟩ : ByteArray))))) else (if a0 = 10 then ((spec_l4Num.f kj88 a1_0 (IntKind.u64.wrap ((IntKind.u64.wrap (a1_1)) - (IntKind.u64.wrap (a2_1))))).bind fun bt600 => (some (bt600.1, bt600.2.1, bt600.2.2, (⟨#[]⟩ : ByteArray)))) else (if a0 = 11 then ((spec_l4Num.f kj88 a1_0 (Go.bits .or .u64 (IntKind.u64.wrap (a1_1)) (IntKind.u64.wrap (a2_1)))).bind fun bt603 => (some (bt603.1, bt603.2.1, bt603.2.2, (⟨#[]⟩ : ByteArray)))) else (if a0 = 12 then ((spec_l4Num.f kj88 a1_0 (Go.bits .xor .u64 (IntKind.u64.wrap (a1_1)) (IntKind.u64.wrap (a2_1)))).bind fun bt606 => (some (bt606.1, bt606.2.1, bt606.2.2, (⟨#[]⟩ : ByteArray)))) else (if a0 = 13 then ((spec_l4Num.f kj88 a1_0 (IntKind.u64.wrap ((IntKind.u64.wrap (a1_1)) * (IntKind.u64.wrap (a2_1))))).bind fun bt609 => (some (bt609.1, bt609.2.1, bt609.2.2, (⟨#[]⟩ : ByteArray)))) else (if a0 = 16 then ((spec_l4Num.f kj88 a1_0 (Go.bits .and .u64 (IntKind.u64.wrap (a1_1)) (IntKind.u64.wrap (a2_1)))).bind fun bt612 => (some (bt612.1, bt612.2.1, bt612.2.2, (⟨#[]⟩ : ByteArray)))) else (if a0 = 17 then ((spec_l4Shift.f kj88 a0 a1_0 a1_1 a2_1).bind fun bt615 => (some (bt615.1, bt615.2.1, bt615.2.2, (⟨#[]⟩ : ByteArray)))) else (if a0 = 18 then ((spec_l4Shift.f kj88 a0 a1_0 a1_1 a2_1).bind fun bt618 => (some (bt618.1, bt618.2.1, bt618.2.2, (⟨#[]⟩ : ByteArray)))) else (if a2_1 = 0 then (some (0, 0, (⟨#[]⟩ : ByteArray), (⟨#[100, 105, 118, 105, 100, 101]⟩ : ByteArray))) else ((spec_l4Divide.f kj88 a1_0 a1_1 a2_1).bind fun bt621 => (if a0 = 14 then (some (bt621.1, bt621.2.1, bt621.2.2.1, (⟨#[]⟩ : ByteArray))) else (some (bt621.2.2.2.1, bt621.2.2.2.2.1, bt621.2.2.2.2.2, (⟨#[]⟩ : ByteArray)))))))))))))) = some (r1, r2, r3, r4) := by rw [if_neg (show ¬ (false = true) by decide)] at H; exact H
                  clear H
                  have H := H1
                  clear H1
                  by_cases c111 : a0 = 9
                  · rw [if_pos c111] at H
                    have c111b0 : (a0 == 9) = true := beq_iff_eq.mpr c111
                    have c111b1 : (a0 != 9) = false := bne_eq_false_iff_eq.mpr c111
                    clear c111
                    by_cases c112 : a1_0 = 2
                    · rw [if_pos c112] at H
                      have c112b0 : (a1_0 == 2) = true := beq_iff_eq.mpr c112
                      have c112b1 : (a1_0 != 2) = false := bne_eq_false_iff_eq.mpr c112
                      clear c112
                      by_cases c113 : (wrap64 ((a1_2.size : Int) + (a2_2.size : Int))) > 3000
                      · rw [if_pos c113] at H
                        have c113b0 : decide (3000 < (wrap64 ((a1_2.size : Int) + (a2_2.size : Int)))) = true := decide_eq_true c113
                        clear c113
                        simp only [Option.some.injEq, Prod.mk.injEq] at H
                        obtain ⟨rfl, rfl, rfl, rfl⟩ := H
                        have hnb114 := NB572_573.out
                        have hnc114 := NB573_572.out
                        have hnb115 := NB572_574.out
                        have hnc115 := NB574_572.out
                        have hcz116_0 : wc.cell? ⟨gb572, 0, none⟩ = some (.int .i64 a1_0) := (blk_cell BK572.out 0).trans rfl
                        have hcz116_1 : wc.cell? ⟨gb572, 1, none⟩ = some (.int .i64 a1_1) := (blk_cell BK572.out 1).trans rfl
                        have hcz116_2 : wc.cell? ⟨gb572, 2, none⟩ = some (.string a1_2) := (blk_cell BK572.out 2).trans rfl
                        have hfz116_0 := blk_frozen BK572.out 0
                        have hfz116_1 := blk_frozen BK572.out 1
                        have hfz116_2 := blk_frozen BK572.out 2
                        have hnb117 := NB573_574.out
                        have hnc117 := NB574_573.out
                        have hcz118_0 : wc.cell? ⟨gb573, 0, none⟩ = some (.int .i64 a2_0) := (blk_cell BK573.out 0).trans rfl
                        have hcz118_1 : wc.cell? ⟨gb573, 1, none⟩ = some (.int .i64 a2_1) := (blk_cell BK573.out 1).trans rfl
                        have hcz118_2 : wc.cell? ⟨gb573, 2, none⟩ = some (.string a2_2) := (blk_cell BK573.out 2).trans rfl
                        have hfz118_0 := blk_frozen BK573.out 0
                        have hfz118_1 := blk_frozen BK573.out 1
                        have hfz118_2 := blk_frozen BK573.out 2
                        have hcz119_0 : wc.cell? ⟨gb574, 0, none⟩ = some (.int .i64 0) := (blk_cell BK574.out 0).trans rfl
                        have hcz119_1 : wc.cell? ⟨gb574, 1, none⟩ = some (.int .i64 0) := (blk_cell BK574.out 1).trans rfl
                        have hcz119_2 : wc.cell? ⟨gb574, 2, none⟩ = some (.string (⟨#[]⟩ : ByteArray)) := (blk_cell BK574.out 2).trans rfl
                        have hfz119_0 := blk_frozen BK574.out 0
                        have hfz119_1 := blk_frozen BK574.out 1
                        have hfz119_2 := blk_frozen BK574.out 2
                        go_wp2
                        refine bodyPost_ret (results_ct rfl _ _ gb574 34 #[.int .i64 0, .int .i64 0, .string (⟨#[]⟩ : ByteArray)] (0, 0) _ rfl (by (with_reducible repeat (first | refine blk_drewN ?_ _ | refine blk_drew ?_ | refine blk_alloc ?_ _)); refine blk_put (cs := #[.int .i64 0, .int .i64 0, .string (⟨#[]⟩ : ByteArray)]) ?_ 2 _ rfl; (with_reducible repeat (first | refine blk_drewN ?_ _ | refine blk_drew ?_ | refine blk_alloc ?_ _)); refine blk_put (cs := #[.int .i64 0, .int .i64 0, .string (⟨#[]⟩ : ByteArray)]) ?_ 1 _ rfl; (with_reducible repeat (first | refine blk_drewN ?_ _ | refine blk_drew ?_ | refine blk_alloc ?_ _)); refine blk_put (cs := #[.int .i64 0, .int .i64 0, .string (⟨#[]⟩ : ByteArray)]) ?_ 0 _ rfl; (with_reducible repeat (first | refine blk_drewN ?_ _ | refine blk_drew ?_ | refine blk_alloc ?_ _)); exact BK574.out) Try.underlying34 rfl (by kernel_rfl)) rfl ?_
                        exact ⟨by first | rfl | (simp [errW_none, errW_some] <;> rfl) | (simp [*, errW_none, errW_some] <;> rfl), by repeat (first | (with_reducible first | exact HB.out | apply below_alloc | apply pw_below_drewN | apply below_drew1 | refine below_set ?_ GE572.out | refine below_set ?_ GE573.out | refine below_set ?_ GE574.out) | exact HB.out)⟩
                      · rw [if_neg c113] at H
                        have c113b0 : decide (3000 < (wrap64 ((a1_2.size : Int) + (a2_2.size : Int)))) = false := decide_eq_false c113
                        clear c113
                        by_cases c120 : a1_2.size + a2_2.size ≤ 9223372036854775807
                        · rw [if_pos c120] at H
                          have c120b0 := eq_true c120
                          have c120b1 : decide (a1_2.size + a2_2.size ≤ 9223372036854775807) = true := decide_eq_true c120
                          try have c120b2 : (9223372036854775807 < a1_2.size + a2_2.size) = False := eq_false (Nat.not_lt.2 c120)
                          (try (have c113b0w := c113b0; rw [show wrap64 ((a1_2.size : Int) + (a2_2.size : Int)) = ((a1_2.size : Int) + (a2_2.size : Int)) from by unfold wrap64; omega] at c113b0w))
                          replace H := Option.bind_eq_some_iff.mp H
                          obtain ⟨⟨t594, t595, t596⟩, A1210, H⟩ := H
                          replace H : (some (t594, t595, t596, (⟨#[]⟩ : ByteArray))) = some (r1, r2, r3, r4) := H
                          have A121 := Aside0.mk A1210
                          clear A1210
                          simp only [Option.some.injEq, Prod.mk.injEq] at H
                          obtain ⟨rfl, rfl, rfl, rfl⟩ := H
                          have hnb122 := NB572_573.out
                          have hnc122 := NB573_572.out
                          have hnb123 := NB572_574.out
                          have hnc123 := NB574_572.out
                          have hcz124_0 : wc.cell? ⟨gb572, 0, none⟩ = some (.int .i64 a1_0) := (blk_cell BK572.out 0).trans rfl
                          have hcz124_1 : wc.cell? ⟨gb572, 1, none⟩ = some (.int .i64 a1_1) := (blk_cell BK572.out 1).trans rfl
                          have hcz124_2 : wc.cell? ⟨gb572, 2, none⟩ = some (.string a1_2) := (blk_cell BK572.out 2).trans rfl
                          have hfz124_0 := blk_frozen BK572.out 0
                          have hfz124_1 := blk_frozen BK572.out 1
                          have hfz124_2 := blk_frozen BK572.out 2
                          have hnb125 := NB573_574.out
                          have hnc125 := NB574_573.out
                          have hcz126_0 : wc.cell? ⟨gb573, 0, none⟩ = some (.int .i64 a2_0) := (blk_cell BK573.out 0).trans rfl
                          have hcz126_1 : wc.cell? ⟨gb573, 1, none⟩ = some (.int .i64 a2_1) := (blk_cell BK573.out 1).trans rfl
                          have hcz126_2 : wc.cell? ⟨gb573, 2, none⟩ = some (.string a2_2) := (blk_cell BK573.out 2).trans rfl
                          have hfz126_0 := blk_frozen BK573.out 0
                          have hfz126_1 := blk_frozen BK573.out 1
                          have hfz126_2 := blk_frozen BK573.out 2
                          go_wp2_with (first | ((with_reducible refine gate_callee (f := 98) rfl ?_); refine goesL_ (some 104) rfl rfl Try.func98 (by kernel_rfl) rfl #[.string (a1_2 ++ a2_2)] rfl (by (try simp only [List.map_toArray, List.map_cons, List.map_nil]); first | done | rfl | (simp only [List.length_drop, List.length_take]; rfl)) ?_; (with_reducible refine (spec_l4Text.calls (a1_2 ++ a2_2) t594 t595 t596 _ A121.out).mono ?_); rintro e w127 ⟨rfl, hb⟩; refine ⟨_, rfl, ?_⟩; have n0_ := Aside0.mk (blk_below (g := gb572) (o := .cells #[.int .i64 a1_0, .int .i64 a1_1, .string a1_2] 34 (0, 0)) (by (with_reducible repeat (first | refine blk_drewN ?_ _ | refine blk_drew ?_ | refine blk_alloc ?_ _)); exact BK572.out) hb); have n1_ := Aside0.mk (blk_below (g := gb573) (o := .cells #[.int .i64 a2_0, .int .i64 a2_1, .string a2_2] 34 (0, 0)) (by (with_reducible repeat (first | refine blk_drewN ?_ _ | refine blk_drew ?_ | refine blk_alloc ?_ _)); exact BK573.out) hb); have n2_ := Aside0.mk (blk_below (g := gb574) (o := .cells #[.int .i64 0, .int .i64 0, .string (⟨#[]⟩ : ByteArray)] 34 (0, 0)) (by (with_reducible repeat (first | refine blk_drewN ?_ _ | refine blk_drew ?_ | refine blk_alloc ?_ _)); exact BK574.out) hb); have n3_ := Aside0.mk (below_step (by repeat (first | (with_reducible first | exact HB.out | apply below_alloc | apply pw_below_drewN | apply below_drew1 | refine below_set ?_ GE572.out | refine below_set ?_ GE573.out | refine below_set ?_ GE574.out) | exact HB.out)) hb); clear BK572; clear BK573; clear BK574; clear HB; have BK572 := n0_; have BK573 := n1_; have BK574 := n2_; have HB := n3_; clear n0_ n1_ n2_ n3_; (try clear hb); (try clear hb2); (try clear hk); (try clear hi); have hcz128_0 : w127.cell? ⟨gb574, 0, none⟩ = some (.int .i64 0) := (blk_cell BK574.out 0).trans rfl; have hcz128_1 : w127.cell? ⟨gb574, 1, none⟩ = some (.int .i64 0) := (blk_cell BK574.out 1).trans rfl; have hcz128_2 : w127.cell? ⟨gb574, 2, none⟩ = some (.string (⟨#[]⟩ : ByteArray)) := (blk_cell BK574.out 2).trans rfl; have hfz128_0 := blk_frozen BK574.out 0; have hfz128_1 := blk_frozen BK574.out 1; have hfz128_2 := blk_frozen BK574.out 2))
                          refine bodyPost_ret (results_ct rfl _ _ gb574 34 #[.int .i64 t594, .int .i64 t595, .string t596] (0, 0) _ rfl (by (with_reducible repeat (first | refine blk_drewN ?_ _ | refine blk_drew ?_ | refine blk_alloc ?_ _)); refine blk_put (cs := #[.int .i64 t594, .int .i64 t595, .string (⟨#[]⟩ : ByteArray)]) ?_ 2 _ rfl; (with_reducible repeat (first | refine blk_drewN ?_ _ | refine blk_drew ?_ | refine blk_alloc ?_ _)); refine blk_put (cs := #[.int .i64 t594, .int .i64 0, .string (⟨#[]⟩ : ByteArray)]) ?_ 1 _ rfl; (with_reducible repeat (first | refine blk_drewN ?_ _ | refine blk_drew ?_ | refine blk_alloc ?_ _)); refine blk_put (cs := #[.int .i64 0, .int .i64 0, .string (⟨#[]⟩ : ByteArray)]) ?_ 0 _ rfl; (with_reducible repeat (first | refine blk_drewN ?_ _ | refine blk_drew ?_ | refine blk_alloc ?_ _)); exact BK574.out) Try.underlying34 rfl (by kernel_rfl)) rfl ?_
                          exact ⟨by first | rfl | (simp [errW_none, errW_some] <;> rfl) | (simp [*, errW_none, errW_some] <;> rfl), by repeat (first | (with_reducible first | exact HB.out | apply below_alloc | apply pw_below_drewN | apply below_drew1 | refine below_set ?_ GE572.out | refine below_set ?_ GE573.out | refine below_set ?_ GE574.out) | exact HB.out)⟩
                        · rw [if_neg c120] at H
                          exact absurd H (by simp)
                    · rw [if_neg c112] at H
                      have c112b0 : (a1_0 == 2) = false := beq_eq_false_iff_ne.mpr c112
                      have c112b1 : (a1_0 != 2) = true := bne_iff_ne.mpr c112
                      replace H := Option.bind_eq_some_iff.mp H
                      obtain ⟨⟨t597, t598, t599⟩, A1290, H⟩ := H
                      replace H : (some (t597, t598, t599, (⟨#[]⟩ : ByteArray))) = some (r1, r2, r3, r4) := H
                      have A129 := Aside0.mk A1290
                      clear A1290
                      simp only [Option.some.injEq, Prod.mk.injEq] at H
                      obtain ⟨rfl, rfl, rfl, rfl⟩ := H
                      have hnb130 := NB572_573.out
                      have hnc130 := NB573_572.out
                      have hnb131 := NB572_574.out
                      have hnc131 := NB574_572.out
                      have hcz132_0 : wc.cell? ⟨gb572, 0, none⟩ = some (.int .i64 a1_0) := (blk_cell BK572.out 0).trans rfl
                      have hcz132_1 : wc.cell? ⟨gb572, 1, none⟩ = some (.int .i64 a1_1) := (blk_cell BK572.out 1).trans rfl
                      have hcz132_2 : wc.cell? ⟨gb572, 2, none⟩ = some (.string a1_2) := (blk_cell BK572.out 2).trans rfl
                      have hfz132_0 := blk_frozen BK572.out 0
                      have hfz132_1 := blk_frozen BK572.out 1
                      have hfz132_2 := blk_frozen BK572.out 2
                      go_wp2_with (first | ((with_reducible refine gate_callee (f := 66) rfl ?_); refine goesL_ (some 89) rfl rfl Try.func66 (by kernel_rfl) rfl #[.int .i64 a1_0, .int .u64 (IntKind.u64.wrap ((IntKind.u64.wrap (a1_1)) + (IntKind.u64.wrap (a2_1))))] rfl (by (try simp only [List.map_toArray, List.map_cons, List.map_nil]); first | done | rfl | (simp only [List.length_drop, List.length_take]; rfl)) ?_; (with_reducible refine (spec_l4Num.calls kj88 a1_0 (IntKind.u64.wrap ((IntKind.u64.wrap (a1_1)) + (IntKind.u64.wrap (a2_1)))) t597 t598 t599 _ A129.out).mono ?_); rintro e w133 ⟨rfl, hb⟩; refine ⟨_, rfl, ?_⟩; have n0_ := Aside0.mk (blk_below (g := gb572) (o := .cells #[.int .i64 a1_0, .int .i64 a1_1, .string a1_2] 34 (0, 0)) (by (with_reducible repeat (first | refine blk_drewN ?_ _ | refine blk_drew ?_ | refine blk_alloc ?_ _)); exact BK572.out) hb); have n1_ := Aside0.mk (blk_below (g := gb573) (o := .cells #[.int .i64 a2_0, .int .i64 a2_1, .string a2_2] 34 (0, 0)) (by (with_reducible repeat (first | refine blk_drewN ?_ _ | refine blk_drew ?_ | refine blk_alloc ?_ _)); exact BK573.out) hb); have n2_ := Aside0.mk (blk_below (g := gb574) (o := .cells #[.int .i64 0, .int .i64 0, .string (⟨#[]⟩ : ByteArray)] 34 (0, 0)) (by (with_reducible repeat (first | refine blk_drewN ?_ _ | refine blk_drew ?_ | refine blk_alloc ?_ _)); exact BK574.out) hb); have n3_ := Aside0.mk (below_step (by repeat (first | (with_reducible first | exact HB.out | apply below_alloc | apply pw_below_drewN | apply below_drew1 | refine below_set ?_ GE572.out | refine below_set ?_ GE573.out | refine below_set ?_ GE574.out) | exact HB.out)) hb); clear BK572; clear BK573; clear BK574; clear HB; have BK572 := n0_; have BK573 := n1_; have BK574 := n2_; have HB := n3_; clear n0_ n1_ n2_ n3_; (try clear hb); (try clear hb2); (try clear hk); (try clear hi); have hnb134 := NB574_573.out; have hnc134 := NB573_574.out; have hcz135_0 : w133.cell? ⟨gb574, 0, none⟩ = some (.int .i64 0) := (blk_cell BK574.out 0).trans rfl; have hcz135_1 : w133.cell? ⟨gb574, 1, none⟩ = some (.int .i64 0) := (blk_cell BK574.out 1).trans rfl; have hcz135_2 : w133.cell? ⟨gb574, 2, none⟩ = some (.string (⟨#[]⟩ : ByteArray)) := (blk_cell BK574.out 2).trans rfl; have hfz135_0 := blk_frozen BK574.out 0; have hfz135_1 := blk_frozen BK574.out 1; have hfz135_2 := blk_frozen BK574.out 2))
                      refine bodyPost_ret (results_ct rfl _ _ gb574 34 #[.int .i64 t597, .int .i64 t598, .string t599] (0, 0) _ rfl (by (with_reducible repeat (first | refine blk_drewN ?_ _ | refine blk_drew ?_ | refine blk_alloc ?_ _)); refine blk_put (cs := #[.int .i64 t597, .int .i64 t598, .string (⟨#[]⟩ : ByteArray)]) ?_ 2 _ rfl; (with_reducible repeat (first | refine blk_drewN ?_ _ | refine blk_drew ?_ | refine blk_alloc ?_ _)); refine blk_put (cs := #[.int .i64 t597, .int .i64 0, .string (⟨#[]⟩ : ByteArray)]) ?_ 1 _ rfl; (with_reducible repeat (first | refine blk_drewN ?_ _ | refine blk_drew ?_ | refine blk_alloc ?_ _)); refine blk_put (cs := #[.int .i64 0, .int .i64 0, .string (⟨#[]⟩ : ByteArray)]) ?_ 0 _ rfl; (with_reducible repeat (first | refine blk_drewN ?_ _ | refine blk_drew ?_ | refine blk_alloc ?_ _)); exact BK574.out) Try.underlying34 rfl (by kernel_rfl)) rfl ?_
                      exact ⟨by first | rfl | (simp [errW_none, errW_some] <;> rfl) | (simp [*, errW_none, errW_some] <;> rfl), by repeat (first | (with_reducible first | exact HB.out | apply below_alloc | apply pw_below_drewN | apply below_drew1 | refine below_set ?_ GE572.out | refine below_set ?_ GE573.out | refine below_set ?_ GE574.out) | exact HB.out)⟩
                  · rw [if_neg c111] at H
                    have c111b0 : (a0 == 9) = false := beq_eq_false_iff_ne.mpr c111
                    have c111b1 : (a0 != 9) = true := bne_iff_ne.mpr c111
                    by_cases c136 : a0 = 10
                    · rw [if_pos c136] at H
                      have c136b0 : (a0 == 10) = true := beq_iff_eq.mpr c136
                      have c136b1 : (a0 != 10) = false := bne_eq_false_iff_eq.mpr c136
                      clear c136
                      replace H := Option.bind_eq_some_iff.mp H
                      obtain ⟨⟨t600, t601, t602⟩, A1370, H⟩ := H
                      replace H : (some (t600, t601, t602, (⟨#[]⟩ : ByteArray))) = some (r1, r2, r3, r4) := H
                      have A137 := Aside0.mk A1370
                      clear A1370
                      simp only [Option.some.injEq, Prod.mk.injEq] at H
                      obtain ⟨rfl, rfl, rfl, rfl⟩ := H
                      have hnb138 := NB572_573.out
                      have hnc138 := NB573_572.out
                      have hnb139 := NB572_574.out
                      have hnc139 := NB574_572.out
                      have hcz140_0 : wc.cell? ⟨gb572, 0, none⟩ = some (.int .i64 a1_0) := (blk_cell BK572.out 0).trans rfl
                      have hcz140_1 : wc.cell? ⟨gb572, 1, none⟩ = some (.int .i64 a1_1) := (blk_cell BK572.out 1).trans rfl
                      have hcz140_2 : wc.cell? ⟨gb572, 2, none⟩ = some (.string a1_2) := (blk_cell BK572.out 2).trans rfl
                      have hfz140_0 := blk_frozen BK572.out 0
                      have hfz140_1 := blk_frozen BK572.out 1
                      have hfz140_2 := blk_frozen BK572.out 2
                      go_wp2_with (first | ((with_reducible refine gate_callee (f := 66) rfl ?_); refine goesL_ (some 112) rfl rfl Try.func66 (by kernel_rfl) rfl #[.int .i64 a1_0, .int .u64 (IntKind.u64.wrap ((IntKind.u64.wrap (a1_1)) - (IntKind.u64.wrap (a2_1))))] rfl (by (try simp only [List.map_toArray, List.map_cons, List.map_nil]); first | done | rfl | (simp only [List.length_drop, List.length_take]; rfl)) ?_; (with_reducible refine (spec_l4Num.calls kj88 a1_0 (IntKind.u64.wrap ((IntKind.u64.wrap (a1_1)) - (IntKind.u64.wrap (a2_1)))) t600 t601 t602 _ A137.out).mono ?_); rintro e w141 ⟨rfl, hb⟩; refine ⟨_, rfl, ?_⟩; have n0_ := Aside0.mk (blk_below (g := gb572) (o := .cells #[.int .i64 a1_0, .int .i64 a1_1, .string a1_2] 34 (0, 0)) (by (with_reducible repeat (first | refine blk_drewN ?_ _ | refine blk_drew ?_ | refine blk_alloc ?_ _)); exact BK572.out) hb); have n1_ := Aside0.mk (blk_below (g := gb573) (o := .cells #[.int .i64 a2_0, .int .i64 a2_1, .string a2_2] 34 (0, 0)) (by (with_reducible repeat (first | refine blk_drewN ?_ _ | refine blk_drew ?_ | refine blk_alloc ?_ _)); exact BK573.out) hb); have n2_ := Aside0.mk (blk_below (g := gb574) (o := .cells #[.int .i64 0, .int .i64 0, .string (⟨#[]⟩ : ByteArray)] 34 (0, 0)) (by (with_reducible repeat (first | refine blk_drewN ?_ _ | refine blk_drew ?_ | refine blk_alloc ?_ _)); exact BK574.out) hb); have n3_ := Aside0.mk (below_step (by repeat (first | (with_reducible first | exact HB.out | apply below_alloc | apply pw_below_drewN | apply below_drew1 | refine below_set ?_ GE572.out | refine below_set ?_ GE573.out | refine below_set ?_ GE574.out) | exact HB.out)) hb); clear BK572; clear BK573; clear BK574; clear HB; have BK572 := n0_; have BK573 := n1_; have BK574 := n2_; have HB := n3_; clear n0_ n1_ n2_ n3_; (try clear hb); (try clear hb2); (try clear hk); (try clear hi); have hnb142 := NB574_573.out; have hnc142 := NB573_574.out; have hcz143_0 : w141.cell? ⟨gb574, 0, none⟩ = some (.int .i64 0) := (blk_cell BK574.out 0).trans rfl; have hcz143_1 : w141.cell? ⟨gb574, 1, none⟩ = some (.int .i64 0) := (blk_cell BK574.out 1).trans rfl; have hcz143_2 : w141.cell? ⟨gb574, 2, none⟩ = some (.string (⟨#[]⟩ : ByteArray)) := (blk_cell BK574.out 2).trans rfl; have hfz143_0 := blk_frozen BK574.out 0; have hfz143_1 := blk_frozen BK574.out 1; have hfz143_2 := blk_frozen BK574.out 2))
                      refine bodyPost_ret (results_ct rfl _ _ gb574 34 #[.int .i64 t600, .int .i64 t601, .string t602] (0, 0) _ rfl (by (with_reducible repeat (first | refine blk_drewN ?_ _ | refine blk_drew ?_ | refine blk_alloc ?_ _)); refine blk_put (cs := #[.int .i64 t600, .int .i64 t601, .string (⟨#[]⟩ : ByteArray)]) ?_ 2 _ rfl; (with_reducible repeat (first | refine blk_drewN ?_ _ | refine blk_drew ?_ | refine blk_alloc ?_ _)); refine blk_put (cs := #[.int .i64 t600, .int .i64 0, .string (⟨#[]⟩ : ByteArray)]) ?_ 1 _ rfl; (with_reducible repeat (first | refine blk_drewN ?_ _ | refine blk_drew ?_ | refine blk_alloc ?_ _)); refine blk_put (cs := #[.int .i64 0, .int .i64 0, .string (⟨#[]⟩ : ByteArray)]) ?_ 0 _ rfl; (with_reducible repeat (first | refine blk_drewN ?_ _ | refine blk_drew ?_ | refine blk_alloc ?_ _)); exact BK574.out) Try.underlying34 rfl (by kernel_rfl)) rfl ?_
                      exact ⟨by first | rfl | (simp [errW_none, errW_some] <;> rfl) | (simp [*, errW_none, errW_some] <;> rfl), by repeat (first | (with_reducible first | exact HB.out | apply below_alloc | apply pw_below_drewN | apply below_drew1 | refine below_set ?_ GE572.out | refine below_set ?_ GE573.out | refine below_set ?_ GE574.out) | exact HB.out)⟩
                    · rw [if_neg c136] at H
                      have c136b0 : (a0 == 10) = false := beq_eq_false_iff_ne.mpr c136
                      have c136b1 : (a0 != 10) = true := bne_iff_ne.mpr c136
                      by_cases c144 : a0 = 11
                      · rw [if_pos c144] at H
                        have c144b0 : (a0 == 11) = true := beq_iff_eq.mpr c144
                        have c144b1 : (a0 != 11) = false := bne_eq_false_iff_eq.mpr c144
                        clear c144
                        replace H := Option.bind_eq_some_iff.mp H
                        obtain ⟨⟨t603, t604, t605⟩, A1450, H⟩ := H
                        replace H : (some (t603, t604, t605, (⟨#[]⟩ : ByteArray))) = some (r1, r2, r3, r4) := H
                        have A145 := Aside0.mk A1450
                        clear A1450
                        simp only [Option.some.injEq, Prod.mk.injEq] at H
                        obtain ⟨rfl, rfl, rfl, rfl⟩ := H
                        have hnb146 := NB572_573.out
                        have hnc146 := NB573_572.out
                        have hnb147 := NB572_574.out
                        have hnc147 := NB574_572.out
                        have hcz148_0 : wc.cell? ⟨gb572, 0, none⟩ = some (.int .i64 a1_0) := (blk_cell BK572.out 0).trans rfl
                        have hcz148_1 : wc.cell? ⟨gb572, 1, none⟩ = some (.int .i64 a1_1) := (blk_cell BK572.out 1).trans rfl
                        have hcz148_2 : wc.cell? ⟨gb572, 2, none⟩ = some (.string a1_2) := (blk_cell BK572.out 2).trans rfl
                        have hfz148_0 := blk_frozen BK572.out 0
                        have hfz148_1 := blk_frozen BK572.out 1
                        have hfz148_2 := blk_frozen BK572.out 2
                        go_wp2_with (first | ((with_reducible refine gate_callee (f := 66) rfl ?_); refine goesL_ (some 120) rfl rfl Try.func66 (by kernel_rfl) rfl #[.int .i64 a1_0, .int .u64 (Go.bits .or .u64 (IntKind.u64.wrap (a1_1)) (IntKind.u64.wrap (a2_1)))] rfl (by (try simp only [List.map_toArray, List.map_cons, List.map_nil]); first | done | rfl | (simp only [List.length_drop, List.length_take]; rfl)) ?_; (with_reducible refine (spec_l4Num.calls kj88 a1_0 (Go.bits .or .u64 (IntKind.u64.wrap (a1_1)) (IntKind.u64.wrap (a2_1))) t603 t604 t605 _ A145.out).mono ?_); rintro e w149 ⟨rfl, hb⟩; refine ⟨_, rfl, ?_⟩; have n0_ := Aside0.mk (blk_below (g := gb572) (o := .cells #[.int .i64 a1_0, .int .i64 a1_1, .string a1_2] 34 (0, 0)) (by (with_reducible repeat (first | refine blk_drewN ?_ _ | refine blk_drew ?_ | refine blk_alloc ?_ _)); exact BK572.out) hb); have n1_ := Aside0.mk (blk_below (g := gb573) (o := .cells #[.int .i64 a2_0, .int .i64 a2_1, .string a2_2] 34 (0, 0)) (by (with_reducible repeat (first | refine blk_drewN ?_ _ | refine blk_drew ?_ | refine blk_alloc ?_ _)); exact BK573.out) hb); have n2_ := Aside0.mk (blk_below (g := gb574) (o := .cells #[.int .i64 0, .int .i64 0, .string (⟨#[]⟩ : ByteArray)] 34 (0, 0)) (by (with_reducible repeat (first | refine blk_drewN ?_ _ | refine blk_drew ?_ | refine blk_alloc ?_ _)); exact BK574.out) hb); have n3_ := Aside0.mk (below_step (by repeat (first | (with_reducible first | exact HB.out | apply below_alloc | apply pw_below_drewN | apply below_drew1 | refine below_set ?_ GE572.out | refine below_set ?_ GE573.out | refine below_set ?_ GE574.out) | exact HB.out)) hb); clear BK572; clear BK573; clear BK574; clear HB; have BK572 := n0_; have BK573 := n1_; have BK574 := n2_; have HB := n3_; clear n0_ n1_ n2_ n3_; (try clear hb); (try clear hb2); (try clear hk); (try clear hi); have hnb150 := NB574_573.out; have hnc150 := NB573_574.out; have hcz151_0 : w149.cell? ⟨gb574, 0, none⟩ = some (.int .i64 0) := (blk_cell BK574.out 0).trans rfl; have hcz151_1 : w149.cell? ⟨gb574, 1, none⟩ = some (.int .i64 0) := (blk_cell BK574.out 1).trans rfl; have hcz151_2 : w149.cell? ⟨gb574, 2, none⟩ = some (.string (⟨#[]⟩ : ByteArray)) := (blk_cell BK574.out 2).trans rfl; have hfz151_0 := blk_frozen BK574.out 0; have hfz151_1 := blk_frozen BK574.out 1; have hfz151_2 := blk_frozen BK574.out 2))
                        refine bodyPost_ret (results_ct rfl _ _ gb574 34 #[.int .i64 t603, .int .i64 t604, .string t605] (0, 0) _ rfl (by (with_reducible repeat (first | refine blk_drewN ?_ _ | refine blk_drew ?_ | refine blk_alloc ?_ _)); refine blk_put (cs := #[.int .i64 t603, .int .i64 t604, .string (⟨#[]⟩ : ByteArray)]) ?_ 2 _ rfl; (with_reducible repeat (first | refine blk_drewN ?_ _ | refine blk_drew ?_ | refine blk_alloc ?_ _)); refine blk_put (cs := #[.int .i64 t603, .int .i64 0, .string (⟨#[]⟩ : ByteArray)]) ?_ 1 _ rfl; (with_reducible repeat (first | refine blk_drewN ?_ _ | refine blk_drew ?_ | refine blk_alloc ?_ _)); refine blk_put (cs := #[.int .i64 0, .int .i64 0, .string (⟨#[]⟩ : ByteArray)]) ?_ 0 _ rfl; (with_reducible repeat (first | refine blk_drewN ?_ _ | refine blk_drew ?_ | refine blk_alloc ?_ _)); exact BK574.out) Try.underlying34 rfl (by kernel_rfl)) rfl ?_
                        exact ⟨by first | rfl | (simp [errW_none, errW_some] <;> rfl) | (simp [*, errW_none, errW_some] <;> rfl), by repeat (first | (with_reducible first | exact HB.out | apply below_alloc | apply pw_below_drewN | apply below_drew1 | refine below_set ?_ GE572.out | refine below_set ?_ GE573.out | refine below_set ?_ GE574.out) | exact HB.out)⟩
                      · rw [if_neg c144] at H
                        have c144b0 : (a0 == 11) = false := beq_eq_false_iff_ne.mpr c144
                        have c144b1 : (a0 != 11) = true := bne_iff_ne.mpr c144
                        by_cases c152 : a0 = 12
                        · rw [if_pos c152] at H
                          have c152b0 : (a0 == 12) = true := beq_iff_eq.mpr c152
                          have c152b1 : (a0 != 12) = false := bne_eq_false_iff_eq.mpr c152
                          clear c152
                          replace H := Option.bind_eq_some_iff.mp H
                          obtain ⟨⟨t606, t607, t608⟩, A1530, H⟩ := H
                          replace H : (some (t606, t607, t608, (⟨#[]⟩ : ByteArray))) = some (r1, r2, r3, r4) := H
                          have A153 := Aside0.mk A1530
                          clear A1530
                          simp only [Option.some.injEq, Prod.mk.injEq] at H
                          obtain ⟨rfl, rfl, rfl, rfl⟩ := H
                          have hnb154 := NB572_573.out
                          have hnc154 := NB573_572.out
                          have hnb155 := NB572_574.out
                          have hnc155 := NB574_572.out
                          have hcz156_0 : wc.cell? ⟨gb572, 0, none⟩ = some (.int .i64 a1_0) := (blk_cell BK572.out 0).trans rfl
                          have hcz156_1 : wc.cell? ⟨gb572, 1, none⟩ = some (.int .i64 a1_1) := (blk_cell BK572.out 1).trans rfl
                          have hcz156_2 : wc.cell? ⟨gb572, 2, none⟩ = some (.string a1_2) := (blk_cell BK572.out 2).trans rfl
                          have hfz156_0 := blk_frozen BK572.out 0
                          have hfz156_1 := blk_frozen BK572.out 1
                          have hfz156_2 := blk_frozen BK572.out 2
                          go_wp2_with (first | ((with_reducible refine gate_callee (f := 66) rfl ?_); refine goesL_ (some 128) rfl rfl Try.func66 (by kernel_rfl) rfl #[.int .i64 a1_0, .int .u64 (Go.bits .xor .u64 (IntKind.u64.wrap (a1_1)) (IntKind.u64.wrap (a2_1)))] rfl (by (try simp only [List.map_toArray, List.map_cons, List.map_nil]); first | done | rfl | (simp only [List.length_drop, List.length_take]; rfl)) ?_; (with_reducible refine (spec_l4Num.calls kj88 a1_0 (Go.bits .xor .u64 (IntKind.u64.wrap (a1_1)) (IntKind.u64.wrap (a2_1))) t606 t607 t608 _ A153.out).mono ?_); rintro e w157 ⟨rfl, hb⟩; refine ⟨_, rfl, ?_⟩; have n0_ := Aside0.mk (blk_below (g := gb572) (o := .cells #[.int .i64 a1_0, .int .i64 a1_1, .string a1_2] 34 (0, 0)) (by (with_reducible repeat (first | refine blk_drewN ?_ _ | refine blk_drew ?_ | refine blk_alloc ?_ _)); exact BK572.out) hb); have n1_ := Aside0.mk (blk_below (g := gb573) (o := .cells #[.int .i64 a2_0, .int .i64 a2_1, .string a2_2] 34 (0, 0)) (by (with_reducible repeat (first | refine blk_drewN ?_ _ | refine blk_drew ?_ | refine blk_alloc ?_ _)); exact BK573.out) hb); have n2_ := Aside0.mk (blk_below (g := gb574) (o := .cells #[.int .i64 0, .int .i64 0, .string (⟨#[]⟩ : ByteArray)] 34 (0, 0)) (by (with_reducible repeat (first | refine blk_drewN ?_ _ | refine blk_drew ?_ | refine blk_alloc ?_ _)); exact BK574.out) hb); have n3_ := Aside0.mk (below_step (by repeat (first | (with_reducible first | exact HB.out | apply below_alloc | apply pw_below_drewN | apply below_drew1 | refine below_set ?_ GE572.out | refine below_set ?_ GE573.out | refine below_set ?_ GE574.out) | exact HB.out)) hb); clear BK572; clear BK573; clear BK574; clear HB; have BK572 := n0_; have BK573 := n1_; have BK574 := n2_; have HB := n3_; clear n0_ n1_ n2_ n3_; (try clear hb); (try clear hb2); (try clear hk); (try clear hi); have hnb158 := NB574_573.out; have hnc158 := NB573_574.out; have hcz159_0 : w157.cell? ⟨gb574, 0, none⟩ = some (.int .i64 0) := (blk_cell BK574.out 0).trans rfl; have hcz159_1 : w157.cell? ⟨gb574, 1, none⟩ = some (.int .i64 0) := (blk_cell BK574.out 1).trans rfl; have hcz159_2 : w157.cell? ⟨gb574, 2, none⟩ = some (.string (⟨#[]⟩ : ByteArray)) := (blk_cell BK574.out 2).trans rfl; have hfz159_0 := blk_frozen BK574.out 0; have hfz159_1 := blk_frozen BK574.out 1; have hfz159_2 := blk_frozen BK574.out 2))
                          refine bodyPost_ret (results_ct rfl _ _ gb574 34 #[.int .i64 t606, .int .i64 t607, .string t608] (0, 0) _ rfl (by (with_reducible repeat (first | refine blk_drewN ?_ _ | refine blk_drew ?_ | refine blk_alloc ?_ _)); refine blk_put (cs := #[.int .i64 t606, .int .i64 t607, .string (⟨#[]⟩ : ByteArray)]) ?_ 2 _ rfl; (with_reducible repeat (first | refine blk_drewN ?_ _ | refine blk_drew ?_ | refine blk_alloc ?_ _)); refine blk_put (cs := #[.int .i64 t606, .int .i64 0, .string (⟨#[]⟩ : ByteArray)]) ?_ 1 _ rfl; (with_reducible repeat (first | refine blk_drewN ?_ _ | refine blk_drew ?_ | refine blk_alloc ?_ _)); refine blk_put (cs := #[.int .i64 0, .int .i64 0, .string (⟨#[]⟩ : ByteArray)]) ?_ 0 _ rfl; (with_reducible repeat (first | refine blk_drewN ?_ _ | refine blk_drew ?_ | refine blk_alloc ?_ _)); exact BK574.out) Try.underlying34 rfl (by kernel_rfl)) rfl ?_
                          exact ⟨by first | rfl | (simp [errW_none, errW_some] <;> rfl) | (simp [*, errW_none, errW_some] <;> rfl), by repeat (first | (with_reducible first | exact HB.out | apply below_alloc | apply pw_below_drewN | apply below_drew1 | refine below_set ?_ GE572.out | refine below_set ?_ GE573.out | refine below_set ?_ GE574.out) | exact HB.out)⟩
                        · rw [if_neg c152] at H
                          have c152b0 : (a0 == 12) = false := beq_eq_false_iff_ne.mpr c152
                          have c152b1 : (a0 != 12) = true := bne_iff_ne.mpr c152
                          by_cases c160 : a0 = 13
                          · rw [if_pos c160] at H
                            have c160b0 : (a0 == 13) = true := beq_iff_eq.mpr c160
                            have c160b1 : (a0 != 13) = false := bne_eq_false_iff_eq.mpr c160
                            clear c160
                            replace H := Option.bind_eq_some_iff.mp H
                            obtain ⟨⟨t609, t610, t611⟩, A1610, H⟩ := H
                            replace H : (some (t609, t610, t611, (⟨#[]⟩ : ByteArray))) = some (r1, r2, r3, r4) := H
                            have A161 := Aside0.mk A1610
                            clear A1610
                            simp only [Option.some.injEq, Prod.mk.injEq] at H
                            obtain ⟨rfl, rfl, rfl, rfl⟩ := H
                            have hnb162 := NB572_573.out
                            have hnc162 := NB573_572.out
                            have hnb163 := NB572_574.out
                            have hnc163 := NB574_572.out
                            have hcz164_0 : wc.cell? ⟨gb572, 0, none⟩ = some (.int .i64 a1_0) := (blk_cell BK572.out 0).trans rfl
                            have hcz164_1 : wc.cell? ⟨gb572, 1, none⟩ = some (.int .i64 a1_1) := (blk_cell BK572.out 1).trans rfl
                            have hcz164_2 : wc.cell? ⟨gb572, 2, none⟩ = some (.string a1_2) := (blk_cell BK572.out 2).trans rfl
                            have hfz164_0 := blk_frozen BK572.out 0
                            have hfz164_1 := blk_frozen BK572.out 1
                            have hfz164_2 := blk_frozen BK572.out 2
                            go_wp2_with (first | ((with_reducible refine gate_callee (f := 66) rfl ?_); refine goesL_ (some 136) rfl rfl Try.func66 (by kernel_rfl) rfl #[.int .i64 a1_0, .int .u64 (IntKind.u64.wrap ((IntKind.u64.wrap (a1_1)) * (IntKind.u64.wrap (a2_1))))] rfl (by (try simp only [List.map_toArray, List.map_cons, List.map_nil]); first | done | rfl | (simp only [List.length_drop, List.length_take]; rfl)) ?_; (with_reducible refine (spec_l4Num.calls kj88 a1_0 (IntKind.u64.wrap ((IntKind.u64.wrap (a1_1)) * (IntKind.u64.wrap (a2_1)))) t609 t610 t611 _ A161.out).mono ?_); rintro e w165 ⟨rfl, hb⟩; refine ⟨_, rfl, ?_⟩; have n0_ := Aside0.mk (blk_below (g := gb572) (o := .cells #[.int .i64 a1_0, .int .i64 a1_1, .string a1_2] 34 (0, 0)) (by (with_reducible repeat (first | refine blk_drewN ?_ _ | refine blk_drew ?_ | refine blk_alloc ?_ _)); exact BK572.out) hb); have n1_ := Aside0.mk (blk_below (g := gb573) (o := .cells #[.int .i64 a2_0, .int .i64 a2_1, .string a2_2] 34 (0, 0)) (by (with_reducible repeat (first | refine blk_drewN ?_ _ | refine blk_drew ?_ | refine blk_alloc ?_ _)); exact BK573.out) hb); have n2_ := Aside0.mk (blk_below (g := gb574) (o := .cells #[.int .i64 0, .int .i64 0, .string (⟨#[]⟩ : ByteArray)] 34 (0, 0)) (by (with_reducible repeat (first | refine blk_drewN ?_ _ | refine blk_drew ?_ | refine blk_alloc ?_ _)); exact BK574.out) hb); have n3_ := Aside0.mk (below_step (by repeat (first | (with_reducible first | exact HB.out | apply below_alloc | apply pw_below_drewN | apply below_drew1 | refine below_set ?_ GE572.out | refine below_set ?_ GE573.out | refine below_set ?_ GE574.out) | exact HB.out)) hb); clear BK572; clear BK573; clear BK574; clear HB; have BK572 := n0_; have BK573 := n1_; have BK574 := n2_; have HB := n3_; clear n0_ n1_ n2_ n3_; (try clear hb); (try clear hb2); (try clear hk); (try clear hi); have hnb166 := NB574_573.out; have hnc166 := NB573_574.out; have hcz167_0 : w165.cell? ⟨gb574, 0, none⟩ = some (.int .i64 0) := (blk_cell BK574.out 0).trans rfl; have hcz167_1 : w165.cell? ⟨gb574, 1, none⟩ = some (.int .i64 0) := (blk_cell BK574.out 1).trans rfl; have hcz167_2 : w165.cell? ⟨gb574, 2, none⟩ = some (.string (⟨#[]⟩ : ByteArray)) := (blk_cell BK574.out 2).trans rfl; have hfz167_0 := blk_frozen BK574.out 0; have hfz167_1 := blk_frozen BK574.out 1; have hfz167_2 := blk_frozen BK574.out 2))
                            refine bodyPost_ret (results_ct rfl _ _ gb574 34 #[.int .i64 t609, .int .i64 t610, .string t611] (0, 0) _ rfl (by (with_reducible repeat (first | refine blk_drewN ?_ _ | refine blk_drew ?_ | refine blk_alloc ?_ _)); refine blk_put (cs := #[.int .i64 t609, .int .i64 t610, .string (⟨#[]⟩ : ByteArray)]) ?_ 2 _ rfl; (with_reducible repeat (first | refine blk_drewN ?_ _ | refine blk_drew ?_ | refine blk_alloc ?_ _)); refine blk_put (cs := #[.int .i64 t609, .int .i64 0, .string (⟨#[]⟩ : ByteArray)]) ?_ 1 _ rfl; (with_reducible repeat (first | refine blk_drewN ?_ _ | refine blk_drew ?_ | refine blk_alloc ?_ _)); refine blk_put (cs := #[.int .i64 0, .int .i64 0, .string (⟨#[]⟩ : ByteArray)]) ?_ 0 _ rfl; (with_reducible repeat (first | refine blk_drewN ?_ _ | refine blk_drew ?_ | refine blk_alloc ?_ _)); exact BK574.out) Try.underlying34 rfl (by kernel_rfl)) rfl ?_
                            exact ⟨by first | rfl | (simp [errW_none, errW_some] <;> rfl) | (simp [*, errW_none, errW_some] <;> rfl), by repeat (first | (with_reducible first | exact HB.out | apply below_alloc | apply pw_below_drewN | apply below_drew1 | refine below_set ?_ GE572.out | refine below_set ?_ GE573.out | refine below_set ?_ GE574.out) | exact HB.out)⟩
                          · rw [if_neg c160] at H
                            have c160b0 : (a0 == 13) = false := beq_eq_false_iff_ne.mpr c160
                            have c160b1 : (a0 != 13) = true := bne_iff_ne.mpr c160
                            by_cases c168 : a0 = 16
                            · rw [if_pos c168] at H
                              have c168b0 : (a0 == 16) = true := beq_iff_eq.mpr c168
                              have c168b1 : (a0 != 16) = false := bne_eq_false_iff_eq.mpr c168
                              clear c168
                              replace H := Option.bind_eq_some_iff.mp H
                              obtain ⟨⟨t612, t613, t614⟩, A1690, H⟩ := H
                              replace H : (some (t612, t613, t614, (⟨#[]⟩ : ByteArray))) = some (r1, r2, r3, r4) := H
                              have A169 := Aside0.mk A1690
                              clear A1690
                              simp only [Option.some.injEq, Prod.mk.injEq] at H
                              obtain ⟨rfl, rfl, rfl, rfl⟩ := H
                              have hnb170 := NB572_573.out
                              have hnc170 := NB573_572.out
                              have hnb171 := NB572_574.out
                              have hnc171 := NB574_572.out
                              have hcz172_0 : wc.cell? ⟨gb572, 0, none⟩ = some (.int .i64 a1_0) := (blk_cell BK572.out 0).trans rfl
                              have hcz172_1 : wc.cell? ⟨gb572, 1, none⟩ = some (.int .i64 a1_1) := (blk_cell BK572.out 1).trans rfl
                              have hcz172_2 : wc.cell? ⟨gb572, 2, none⟩ = some (.string a1_2) := (blk_cell BK572.out 2).trans rfl
                              have hfz172_0 := blk_frozen BK572.out 0
                              have hfz172_1 := blk_frozen BK572.out 1
                              have hfz172_2 := blk_frozen BK572.out 2
                              go_wp2_with (first | ((with_reducible refine gate_callee (f := 66) rfl ?_); refine goesL_ (some 144) rfl rfl Try.func66 (by kernel_rfl) rfl #[.int .i64 a1_0, .int .u64 (Go.bits .and .u64 (IntKind.u64.wrap (a1_1)) (IntKind.u64.wrap (a2_1)))] rfl (by (try simp only [List.map_toArray, List.map_cons, List.map_nil]); first | done | rfl | (simp only [List.length_drop, List.length_take]; rfl)) ?_; (with_reducible refine (spec_l4Num.calls kj88 a1_0 (Go.bits .and .u64 (IntKind.u64.wrap (a1_1)) (IntKind.u64.wrap (a2_1))) t612 t613 t614 _ A169.out).mono ?_); rintro e w173 ⟨rfl, hb⟩; refine ⟨_, rfl, ?_⟩; have n0_ := Aside0.mk (blk_below (g := gb572) (o := .cells #[.int .i64 a1_0, .int .i64 a1_1, .string a1_2] 34 (0, 0)) (by (with_reducible repeat (first | refine blk_drewN ?_ _ | refine blk_drew ?_ | refine blk_alloc ?_ _)); exact BK572.out) hb); have n1_ := Aside0.mk (blk_below (g := gb573) (o := .cells #[.int .i64 a2_0, .int .i64 a2_1, .string a2_2] 34 (0, 0)) (by (with_reducible repeat (first | refine blk_drewN ?_ _ | refine blk_drew ?_ | refine blk_alloc ?_ _)); exact BK573.out) hb); have n2_ := Aside0.mk (blk_below (g := gb574) (o := .cells #[.int .i64 0, .int .i64 0, .string (⟨#[]⟩ : ByteArray)] 34 (0, 0)) (by (with_reducible repeat (first | refine blk_drewN ?_ _ | refine blk_drew ?_ | refine blk_alloc ?_ _)); exact BK574.out) hb); have n3_ := Aside0.mk (below_step (by repeat (first | (with_reducible first | exact HB.out | apply below_alloc | apply pw_below_drewN | apply below_drew1 | refine below_set ?_ GE572.out | refine below_set ?_ GE573.out | refine below_set ?_ GE574.out) | exact HB.out)) hb); clear BK572; clear BK573; clear BK574; clear HB; have BK572 := n0_; have BK573 := n1_; have BK574 := n2_; have HB := n3_; clear n0_ n1_ n2_ n3_; (try clear hb); (try clear hb2); (try clear hk); (try clear hi); have hnb174 := NB574_573.out; have hnc174 := NB573_574.out; have hcz175_0 : w173.cell? ⟨gb574, 0, none⟩ = some (.int .i64 0) := (blk_cell BK574.out 0).trans rfl; have hcz175_1 : w173.cell? ⟨gb574, 1, none⟩ = some (.int .i64 0) := (blk_cell BK574.out 1).trans rfl; have hcz175_2 : w173.cell? ⟨gb574, 2, none⟩ = some (.string (⟨#[]⟩ : ByteArray)) := (blk_cell BK574.out 2).trans rfl; have hfz175_0 := blk_frozen BK574.out 0; have hfz175_1 := blk_frozen BK574.out 1; have hfz175_2 := blk_frozen BK574.out 2))
                              refine bodyPost_ret (results_ct rfl _ _ gb574 34 #[.int .i64 t612, .int .i64 t613, .string t614] (0, 0) _ rfl (by (with_reducible repeat (first | refine blk_drewN ?_ _ | refine blk_drew ?_ | refine blk_alloc ?_ _)); refine blk_put (cs := #[.int .i64 t612, .int .i64 t613, .string (⟨#[]⟩ : ByteArray)]) ?_ 2 _ rfl; (with_reducible repeat (first | refine blk_drewN ?_ _ | refine blk_drew ?_ | refine blk_alloc ?_ _)); refine blk_put (cs := #[.int .i64 t612, .int .i64 0, .string (⟨#[]⟩ : ByteArray)]) ?_ 1 _ rfl; (with_reducible repeat (first | refine blk_drewN ?_ _ | refine blk_drew ?_ | refine blk_alloc ?_ _)); refine blk_put (cs := #[.int .i64 0, .int .i64 0, .string (⟨#[]⟩ : ByteArray)]) ?_ 0 _ rfl; (with_reducible repeat (first | refine blk_drewN ?_ _ | refine blk_drew ?_ | refine blk_alloc ?_ _)); exact BK574.out) Try.underlying34 rfl (by kernel_rfl)) rfl ?_
                              exact ⟨by first | rfl | (simp [errW_none, errW_some] <;> rfl) | (simp [*, errW_none, errW_some] <;> rfl), by repeat (first | (with_reducible first | exact HB.out | apply below_alloc | apply pw_below_drewN | apply below_drew1 | refine below_set ?_ GE572.out | refine below_set ?_ GE573.out | refine below_set ?_ GE574.out) | exact HB.out)⟩
                            · rw [if_neg c168] at H
                              have c168b0 : (a0 == 16) = false := beq_eq_false_iff_ne.mpr c168
                              have c168b1 : (a0 != 16) = true := bne_iff_ne.mpr c168
                              by_cases c176 : a0 = 17
                              · rw [if_pos c176] at H
                                have c176b0 : (a0 == 17) = true := beq_iff_eq.mpr c176
                                have c176b1 : (a0 != 17) = false := bne_eq_false_iff_eq.mpr c176
                                clear c176
                                replace H := Option.bind_eq_some_iff.mp H
                                obtain ⟨⟨t615, t616, t617⟩, A1770, H⟩ := H
                                replace H : (some (t615, t616, t617, (⟨#[]⟩ : ByteArray))) = some (r1, r2, r3, r4) := H
                                have A177 := Aside0.mk A1770
                                clear A1770
                                simp only [Option.some.injEq, Prod.mk.injEq] at H
                                obtain ⟨rfl, rfl, rfl, rfl⟩ := H
                                have hnb178 := NB572_573.out
                                have hnc178 := NB573_572.out
                                have hnb179 := NB572_574.out
                                have hnc179 := NB574_572.out
                                have hcz180_0 : wc.cell? ⟨gb572, 0, none⟩ = some (.int .i64 a1_0) := (blk_cell BK572.out 0).trans rfl
                                have hcz180_1 : wc.cell? ⟨gb572, 1, none⟩ = some (.int .i64 a1_1) := (blk_cell BK572.out 1).trans rfl
                                have hcz180_2 : wc.cell? ⟨gb572, 2, none⟩ = some (.string a1_2) := (blk_cell BK572.out 2).trans rfl
                                have hfz180_0 := blk_frozen BK572.out 0
                                have hfz180_1 := blk_frozen BK572.out 1
                                have hfz180_2 := blk_frozen BK572.out 2
                                have hnb181 := NB573_574.out
                                have hnc181 := NB574_573.out
                                have hcz182_0 : wc.cell? ⟨gb573, 0, none⟩ = some (.int .i64 a2_0) := (blk_cell BK573.out 0).trans rfl
                                have hcz182_1 : wc.cell? ⟨gb573, 1, none⟩ = some (.int .i64 a2_1) := (blk_cell BK573.out 1).trans rfl
                                have hcz182_2 : wc.cell? ⟨gb573, 2, none⟩ = some (.string a2_2) := (blk_cell BK573.out 2).trans rfl
                                have hfz182_0 := blk_frozen BK573.out 0
                                have hfz182_1 := blk_frozen BK573.out 1
                                have hfz182_2 := blk_frozen BK573.out 2
                                go_wp2_with (first | ((with_reducible refine gate_callee (f := 99) rfl ?_); refine goesL_ (some 155) rfl rfl Try.func99 (by kernel_rfl) rfl #[.int .i64 a0, .int .i64 a1_0, .int .i64 a1_1, .int .i64 a2_1] rfl (by (try simp only [List.map_toArray, List.map_cons, List.map_nil]); first | done | rfl | (simp only [List.length_drop, List.length_take]; rfl)) ?_; (with_reducible refine (spec_l4Shift.calls kj88 a0 a1_0 a1_1 a2_1 t615 t616 t617 _ A177.out).mono ?_); rintro e w183 ⟨rfl, hb⟩; refine ⟨_, rfl, ?_⟩; have n0_ := Aside0.mk (blk_below (g := gb572) (o := .cells #[.int .i64 a1_0, .int .i64 a1_1, .string a1_2] 34 (0, 0)) (by (with_reducible repeat (first | refine blk_drewN ?_ _ | refine blk_drew ?_ | refine blk_alloc ?_ _)); exact BK572.out) hb); have n1_ := Aside0.mk (blk_below (g := gb573) (o := .cells #[.int .i64 a2_0, .int .i64 a2_1, .string a2_2] 34 (0, 0)) (by (with_reducible repeat (first | refine blk_drewN ?_ _ | refine blk_drew ?_ | refine blk_alloc ?_ _)); exact BK573.out) hb); have n2_ := Aside0.mk (blk_below (g := gb574) (o := .cells #[.int .i64 0, .int .i64 0, .string (⟨#[]⟩ : ByteArray)] 34 (0, 0)) (by (with_reducible repeat (first | refine blk_drewN ?_ _ | refine blk_drew ?_ | refine blk_alloc ?_ _)); exact BK574.out) hb); have n3_ := Aside0.mk (below_step (by repeat (first | (with_reducible first | exact HB.out | apply below_alloc | apply pw_below_drewN | apply below_drew1 | refine below_set ?_ GE572.out | refine below_set ?_ GE573.out | refine below_set ?_ GE574.out) | exact HB.out)) hb); clear BK572; clear BK573; clear BK574; clear HB; have BK572 := n0_; have BK573 := n1_; have BK574 := n2_; have HB := n3_; clear n0_ n1_ n2_ n3_; (try clear hb); (try clear hb2); (try clear hk); (try clear hi); have hcz184_0 : w183.cell? ⟨gb574, 0, none⟩ = some (.int .i64 0) := (blk_cell BK574.out 0).trans rfl; have hcz184_1 : w183.cell? ⟨gb574, 1, none⟩ = some (.int .i64 0) := (blk_cell BK574.out 1).trans rfl; have hcz184_2 : w183.cell? ⟨gb574, 2, none⟩ = some (.string (⟨#[]⟩ : ByteArray)) := (blk_cell BK574.out 2).trans rfl; have hfz184_0 := blk_frozen BK574.out 0; have hfz184_1 := blk_frozen BK574.out 1; have hfz184_2 := blk_frozen BK574.out 2))
                                refine bodyPost_ret (results_ct rfl _ _ gb574 34 #[.int .i64 t615, .int .i64 t616, .string t617] (0, 0) _ rfl (by (with_reducible repeat (first | refine blk_drewN ?_ _ | refine blk_drew ?_ | refine blk_alloc ?_ _)); refine blk_put (cs := #[.int .i64 t615, .int .i64 t616, .string (⟨#[]⟩ : ByteArray)]) ?_ 2 _ rfl; (with_reducible repeat (first | refine blk_drewN ?_ _ | refine blk_drew ?_ | refine blk_alloc ?_ _)); refine blk_put (cs := #[.int .i64 t615, .int .i64 0, .string (⟨#[]⟩ : ByteArray)]) ?_ 1 _ rfl; (with_reducible repeat (first | refine blk_drewN ?_ _ | refine blk_drew ?_ | refine blk_alloc ?_ _)); refine blk_put (cs := #[.int .i64 0, .int .i64 0, .string (⟨#[]⟩ : ByteArray)]) ?_ 0 _ rfl; (with_reducible repeat (first | refine blk_drewN ?_ _ | refine blk_drew ?_ | refine blk_alloc ?_ _)); exact BK574.out) Try.underlying34 rfl (by kernel_rfl)) rfl ?_
                                exact ⟨by first | rfl | (simp [errW_none, errW_some] <;> rfl) | (simp [*, errW_none, errW_some] <;> rfl), by repeat (first | (with_reducible first | exact HB.out | apply below_alloc | apply pw_below_drewN | apply below_drew1 | refine below_set ?_ GE572.out | refine below_set ?_ GE573.out | refine below_set ?_ GE574.out) | exact HB.out)⟩
                              · rw [if_neg c176] at H
                                have c176b0 : (a0 == 17) = false := beq_eq_false_iff_ne.mpr c176
                                have c176b1 : (a0 != 17) = true := bne_iff_ne.mpr c176
                                by_cases c185 : a0 = 18
                                · rw [if_pos c185] at H
                                  have c185b0 : (a0 == 18) = true := beq_iff_eq.mpr c185
                                  have c185b1 : (a0 != 18) = false := bne_eq_false_iff_eq.mpr c185
                                  clear c185
                                  replace H := Option.bind_eq_some_iff.mp H
                                  obtain ⟨⟨t618, t619, t620⟩, A1860, H⟩ := H
                                  replace H : (some (t618, t619, t620, (⟨#[]⟩ : ByteArray))) = some (r1, r2, r3, r4) := H
                                  have A186 := Aside0.mk A1860
                                  clear A1860
                                  simp only [Option.some.injEq, Prod.mk.injEq] at H
                                  obtain ⟨rfl, rfl, rfl, rfl⟩ := H
                                  have hnb187 := NB572_573.out
                                  have hnc187 := NB573_572.out
                                  have hnb188 := NB572_574.out
                                  have hnc188 := NB574_572.out
                                  have hcz189_0 : wc.cell? ⟨gb572, 0, none⟩ = some (.int .i64 a1_0) := (blk_cell BK572.out 0).trans rfl
                                  have hcz189_1 : wc.cell? ⟨gb572, 1, none⟩ = some (.int .i64 a1_1) := (blk_cell BK572.out 1).trans rfl
                                  have hcz189_2 : wc.cell? ⟨gb572, 2, none⟩ = some (.string a1_2) := (blk_cell BK572.out 2).trans rfl
                                  have hfz189_0 := blk_frozen BK572.out 0
                                  have hfz189_1 := blk_frozen BK572.out 1
                                  have hfz189_2 := blk_frozen BK572.out 2
                                  have hnb190 := NB573_574.out
                                  have hnc190 := NB574_573.out
                                  have hcz191_0 : wc.cell? ⟨gb573, 0, none⟩ = some (.int .i64 a2_0) := (blk_cell BK573.out 0).trans rfl
                                  have hcz191_1 : wc.cell? ⟨gb573, 1, none⟩ = some (.int .i64 a2_1) := (blk_cell BK573.out 1).trans rfl
                                  have hcz191_2 : wc.cell? ⟨gb573, 2, none⟩ = some (.string a2_2) := (blk_cell BK573.out 2).trans rfl
                                  have hfz191_0 := blk_frozen BK573.out 0
                                  have hfz191_1 := blk_frozen BK573.out 1
                                  have hfz191_2 := blk_frozen BK573.out 2
                                  go_wp2_with (first | ((with_reducible refine gate_callee (f := 99) rfl ?_); refine goesL_ (some 155) rfl rfl Try.func99 (by kernel_rfl) rfl #[.int .i64 a0, .int .i64 a1_0, .int .i64 a1_1, .int .i64 a2_1] rfl (by (try simp only [List.map_toArray, List.map_cons, List.map_nil]); first | done | rfl | (simp only [List.length_drop, List.length_take]; rfl)) ?_; (with_reducible refine (spec_l4Shift.calls kj88 a0 a1_0 a1_1 a2_1 t618 t619 t620 _ A186.out).mono ?_); rintro e w192 ⟨rfl, hb⟩; refine ⟨_, rfl, ?_⟩; have n0_ := Aside0.mk (blk_below (g := gb572) (o := .cells #[.int .i64 a1_0, .int .i64 a1_1, .string a1_2] 34 (0, 0)) (by (with_reducible repeat (first | refine blk_drewN ?_ _ | refine blk_drew ?_ | refine blk_alloc ?_ _)); exact BK572.out) hb); have n1_ := Aside0.mk (blk_below (g := gb573) (o := .cells #[.int .i64 a2_0, .int .i64 a2_1, .string a2_2] 34 (0, 0)) (by (with_reducible repeat (first | refine blk_drewN ?_ _ | refine blk_drew ?_ | refine blk_alloc ?_ _)); exact BK573.out) hb); have n2_ := Aside0.mk (blk_below (g := gb574) (o := .cells #[.int .i64 0, .int .i64 0, .string (⟨#[]⟩ : ByteArray)] 34 (0, 0)) (by (with_reducible repeat (first | refine blk_drewN ?_ _ | refine blk_drew ?_ | refine blk_alloc ?_ _)); exact BK574.out) hb); have n3_ := Aside0.mk (below_step (by repeat (first | (with_reducible first | exact HB.out | apply below_alloc | apply pw_below_drewN | apply below_drew1 | refine below_set ?_ GE572.out | refine below_set ?_ GE573.out | refine below_set ?_ GE574.out) | exact HB.out)) hb); clear BK572; clear BK573; clear BK574; clear HB; have BK572 := n0_; have BK573 := n1_; have BK574 := n2_; have HB := n3_; clear n0_ n1_ n2_ n3_; (try clear hb); (try clear hb2); (try clear hk); (try clear hi); have hcz193_0 : w192.cell? ⟨gb574, 0, none⟩ = some (.int .i64 0) := (blk_cell BK574.out 0).trans rfl; have hcz193_1 : w192.cell? ⟨gb574, 1, none⟩ = some (.int .i64 0) := (blk_cell BK574.out 1).trans rfl; have hcz193_2 : w192.cell? ⟨gb574, 2, none⟩ = some (.string (⟨#[]⟩ : ByteArray)) := (blk_cell BK574.out 2).trans rfl; have hfz193_0 := blk_frozen BK574.out 0; have hfz193_1 := blk_frozen BK574.out 1; have hfz193_2 := blk_frozen BK574.out 2))
                                  refine bodyPost_ret (results_ct rfl _ _ gb574 34 #[.int .i64 t618, .int .i64 t619, .string t620] (0, 0) _ rfl (by (with_reducible repeat (first | refine blk_drewN ?_ _ | refine blk_drew ?_ | refine blk_alloc ?_ _)); refine blk_put (cs := #[.int .i64 t618, .int .i64 t619, .string (⟨#[]⟩ : ByteArray)]) ?_ 2 _ rfl; (with_reducible repeat (first | refine blk_drewN ?_ _ | refine blk_drew ?_ | refine blk_alloc ?_ _)); refine blk_put (cs := #[.int .i64 t618, .int .i64 0, .string (⟨#[]⟩ : ByteArray)]) ?_ 1 _ rfl; (with_reducible repeat (first | refine blk_drewN ?_ _ | refine blk_drew ?_ | refine blk_alloc ?_ _)); refine blk_put (cs := #[.int .i64 0, .int .i64 0, .string (⟨#[]⟩ : ByteArray)]) ?_ 0 _ rfl; (with_reducible repeat (first | refine blk_drewN ?_ _ | refine blk_drew ?_ | refine blk_alloc ?_ _)); exact BK574.out) Try.underlying34 rfl (by kernel_rfl)) rfl ?_
                                  exact ⟨by first | rfl | (simp [errW_none, errW_some] <;> rfl) | (simp [*, errW_none, errW_some] <;> rfl), by repeat (first | (with_reducible first | exact HB.out | apply below_alloc | apply pw_below_drewN | apply below_drew1 | refine below_set ?_ GE572.out | refine below_set ?_ GE573.out | refine below_set ?_ GE574.out) | exact HB.out)⟩
                                · rw [if_neg c185] at H
                                  have c185b0 : (a0 == 18) = false := beq_eq_false_iff_ne.mpr c185
                                  have c185b1 : (a0 != 18) = true := bne_iff_ne.mpr c185
                                  by_cases c194 : a2_1 = 0
                                  · rw [if_pos c194] at H
                                    have c194b0 : (a2_1 == 0) = true := beq_iff_eq.mpr c194
                                    have c194b1 : (a2_1 != 0) = false := bne_eq_false_iff_eq.mpr c194
                                    clear c194
                                    simp only [Option.some.injEq, Prod.mk.injEq] at H
                                    obtain ⟨rfl, rfl, rfl, rfl⟩ := H
                                    have hnb195 := NB573_572.out
                                    have hnc195 := NB572_573.out
                                    have hnb196 := NB573_574.out
                                    have hnc196 := NB574_573.out
                                    have hcz197_0 : wc.cell? ⟨gb573, 0, none⟩ = some (.int .i64 a2_0) := (blk_cell BK573.out 0).trans rfl
                                    have hcz197_1 : wc.cell? ⟨gb573, 1, none⟩ = some (.int .i64 a2_1) := (blk_cell BK573.out 1).trans rfl
                                    have hcz197_2 : wc.cell? ⟨gb573, 2, none⟩ = some (.string a2_2) := (blk_cell BK573.out 2).trans rfl
                                    have hfz197_0 := blk_frozen BK573.out 0
                                    have hfz197_1 := blk_frozen BK573.out 1
                                    have hfz197_2 := blk_frozen BK573.out 2
                                    have hnb198 := NB574_572.out
                                    have hnc198 := NB572_574.out
                                    have hcz199_0 : wc.cell? ⟨gb574, 0, none⟩ = some (.int .i64 0) := (blk_cell BK574.out 0).trans rfl
                                    have hcz199_1 : wc.cell? ⟨gb574, 1, none⟩ = some (.int .i64 0) := (blk_cell BK574.out 1).trans rfl
                                    have hcz199_2 : wc.cell? ⟨gb574, 2, none⟩ = some (.string (⟨#[]⟩ : ByteArray)) := (blk_cell BK574.out 2).trans rfl
                                    have hfz199_0 := blk_frozen BK574.out 0
                                    have hfz199_1 := blk_frozen BK574.out 1
                                    have hfz199_2 := blk_frozen BK574.out 2
                                    go_wp2
                                    refine bodyPost_ret (results_ct rfl _ _ gb574 34 #[.int .i64 0, .int .i64 0, .string (⟨#[]⟩ : ByteArray)] (0, 0) _ rfl (by (with_reducible repeat (first | refine blk_drewN ?_ _ | refine blk_drew ?_ | refine blk_alloc ?_ _)); refine blk_put (cs := #[.int .i64 0, .int .i64 0, .string (⟨#[]⟩ : ByteArray)]) ?_ 2 _ rfl; (with_reducible repeat (first | refine blk_drewN ?_ _ | refine blk_drew ?_ | refine blk_alloc ?_ _)); refine blk_put (cs := #[.int .i64 0, .int .i64 0, .string (⟨#[]⟩ : ByteArray)]) ?_ 1 _ rfl; (with_reducible repeat (first | refine blk_drewN ?_ _ | refine blk_drew ?_ | refine blk_alloc ?_ _)); refine blk_put (cs := #[.int .i64 0, .int .i64 0, .string (⟨#[]⟩ : ByteArray)]) ?_ 0 _ rfl; (with_reducible repeat (first | refine blk_drewN ?_ _ | refine blk_drew ?_ | refine blk_alloc ?_ _)); exact BK574.out) Try.underlying34 rfl (by kernel_rfl)) rfl ?_
                                    exact ⟨by first | rfl | (simp [errW_none, errW_some] <;> rfl) | (simp [*, errW_none, errW_some] <;> rfl), by repeat (first | (with_reducible first | exact HB.out | apply below_alloc | apply pw_below_drewN | apply below_drew1 | refine below_set ?_ GE572.out | refine below_set ?_ GE573.out | refine below_set ?_ GE574.out) | exact HB.out)⟩
                                  · rw [if_neg c194] at H
                                    have c194b0 : (a2_1 == 0) = false := beq_eq_false_iff_ne.mpr c194
                                    have c194b1 : (a2_1 != 0) = true := bne_iff_ne.mpr c194
                                    replace H := Option.bind_eq_some_iff.mp H
                                    obtain ⟨⟨t621, t622, t623, t624, t625, t626⟩, A2000, H⟩ := H
                                    replace H : (if a0 = 14 then (some (t621, t622, t623, (⟨#[]⟩ : ByteArray))) else (some (t624, t625, t626, (⟨#[]⟩ : ByteArray)))) = some (r1, r2, r3, r4) := H
                                    have A200 := Aside0.mk A2000
                                    clear A2000
                                    by_cases c201 : a0 = 14
                                    · rw [if_pos c201] at H
                                      have c201b0 : (a0 == 14) = true := beq_iff_eq.mpr c201
                                      have c201b1 : (a0 != 14) = false := bne_eq_false_iff_eq.mpr c201
                                      clear c201
                                      simp only [Option.some.injEq, Prod.mk.injEq] at H
                                      obtain ⟨rfl, rfl, rfl, rfl⟩ := H
                                      have hnb202 := NB573_572.out
                                      have hnc202 := NB572_573.out
                                      have hnb203 := NB573_574.out
                                      have hnc203 := NB574_573.out
                                      have hcz204_0 : wc.cell? ⟨gb573, 0, none⟩ = some (.int .i64 a2_0) := (blk_cell BK573.out 0).trans rfl
                                      have hcz204_1 : wc.cell? ⟨gb573, 1, none⟩ = some (.int .i64 a2_1) := (blk_cell BK573.out 1).trans rfl
                                      have hcz204_2 : wc.cell? ⟨gb573, 2, none⟩ = some (.string a2_2) := (blk_cell BK573.out 2).trans rfl
                                      have hfz204_0 := blk_frozen BK573.out 0
                                      have hfz204_1 := blk_frozen BK573.out 1
                                      have hfz204_2 := blk_frozen BK573.out 2
                                      have hnb205 := NB572_574.out
                                      have hnc205 := NB574_572.out
                                      have hcz206_0 : wc.cell? ⟨gb572, 0, none⟩ = some (.int .i64 a1_0) := (blk_cell BK572.out 0).trans rfl
                                      have hcz206_1 : wc.cell? ⟨gb572, 1, none⟩ = some (.int .i64 a1_1) := (blk_cell BK572.out 1).trans rfl
                                      have hcz206_2 : wc.cell? ⟨gb572, 2, none⟩ = some (.string a1_2) := (blk_cell BK572.out 2).trans rfl
                                      have hfz206_0 := blk_frozen BK572.out 0
                                      have hfz206_1 := blk_frozen BK572.out 1
                                      have hfz206_2 := blk_frozen BK572.out 2
                                      go_wp2_with (first | ((with_reducible refine gate_callee (f := 100) rfl ?_); refine goesL_ (some 167) rfl rfl Try.func100 (by kernel_rfl) rfl #[.int .i64 a1_0, .int .i64 a1_1, .int .i64 a2_1] rfl (by (try simp only [List.map_toArray, List.map_cons, List.map_nil]); first | done | rfl | (simp only [List.length_drop, List.length_take]; rfl)) ?_; (with_reducible refine (spec_l4Divide.calls kj88 a1_0 a1_1 a2_1 t621 t622 t623 t624 t625 t626 _ A200.out).mono ?_); rintro e w207 ⟨rfl, hb⟩; refine ⟨_, rfl, ?_⟩; have n0_ := Aside0.mk (blk_below (g := gb572) (o := .cells #[.int .i64 a1_0, .int .i64 a1_1, .string a1_2] 34 (0, 0)) (by (with_reducible repeat (first | refine blk_drewN ?_ _ | refine blk_drew ?_ | refine blk_alloc ?_ _)); exact BK572.out) hb); have n1_ := Aside0.mk (blk_below (g := gb573) (o := .cells #[.int .i64 a2_0, .int .i64 a2_1, .string a2_2] 34 (0, 0)) (by (with_reducible repeat (first | refine blk_drewN ?_ _ | refine blk_drew ?_ | refine blk_alloc ?_ _)); exact BK573.out) hb); have n2_ := Aside0.mk (blk_below (g := gb574) (o := .cells #[.int .i64 0, .int .i64 0, .string (⟨#[]⟩ : ByteArray)] 34 (0, 0)) (by (with_reducible repeat (first | refine blk_drewN ?_ _ | refine blk_drew ?_ | refine blk_alloc ?_ _)); exact BK574.out) hb); have n3_ := Aside0.mk (below_step (by repeat (first | (with_reducible first | exact HB.out | apply below_alloc | apply pw_below_drewN | apply below_drew1 | refine below_set ?_ GE572.out | refine below_set ?_ GE573.out | refine below_set ?_ GE574.out) | exact HB.out)) hb); clear BK572; clear BK573; clear BK574; clear HB; have BK572 := n0_; have BK573 := n1_; have BK574 := n2_; have HB := n3_; clear n0_ n1_ n2_ n3_; (try clear hb); (try clear hb2); (try clear hk); (try clear hi)) | ((with_reducible refine gate_dst (N := 10) rfl ?_); refine box_event ?hg (N := 10) ?hd (cs := #[.int .i64 0, .int .i64 0, .string (⟨#[]⟩ : ByteArray)]) (t := 34) ?hr ?_; (case hd => rfl); (case hg => rfl); (case hr => first | (go_simp; done) | (go_simp; rfl)); intro gb627 hg w208 hbox hb; have n0_ := Aside0.mk (blk_below (g := gb572) (o := .cells #[.int .i64 a1_0, .int .i64 a1_1, .string a1_2] 34 (0, 0)) (by (with_reducible repeat (first | refine blk_drewN ?_ _ | refine blk_drew ?_ | refine blk_alloc ?_ _)); exact BK572.out) hb); have n1_ := Aside0.mk (blk_below (g := gb573) (o := .cells #[.int .i64 a2_0, .int .i64 a2_1, .string a2_2] 34 (0, 0)) (by (with_reducible repeat (first | refine blk_drewN ?_ _ | refine blk_drew ?_ | refine blk_alloc ?_ _)); exact BK573.out) hb); have n2_ := Aside0.mk (blk_below (g := gb574) (o := .cells #[.int .i64 0, .int .i64 0, .string (⟨#[]⟩ : ByteArray)] 34 (0, 0)) (by (with_reducible repeat (first | refine blk_drewN ?_ _ | refine blk_drew ?_ | refine blk_alloc ?_ _)); exact BK574.out) hb); have n3_ := Aside0.mk (below_step (by repeat (first | (with_reducible first | exact HB.out | apply below_alloc | apply pw_below_drewN | apply below_drew1 | refine below_set ?_ GE572.out | refine below_set ?_ GE573.out | refine below_set ?_ GE574.out) | exact HB.out)) hb); have n4_ := Aside0.mk (hbox); have n5_ := Aside0.mk ((by rw [hg]; exact (below_size (by repeat (first | (with_reducible first | exact HB.out | apply below_alloc | apply pw_below_drewN | apply below_drew1 | refine below_set ?_ GE572.out | refine below_set ?_ GE573.out | refine below_set ?_ GE574.out) | exact HB.out))) : w.heap.size ≤ gb627)); have n6_ := Aside0.mk ((by rw [hg]; exact (below_size (by repeat (first | (with_reducible first | exact HB.out | apply below_alloc | apply pw_below_drewN | apply below_drew1 | refine below_set ?_ GE572.out | refine below_set ?_ GE573.out | refine below_set ?_ GE574.out) | exact HB.out))) : w.heap.size ≤ gb627)); have n7_ := Aside0.mk ((by rw [hg]; exact Nat.ne_of_lt (blk_lt (g := gb572) (o := .cells #[.int .i64 a1_0, .int .i64 a1_1, .string a1_2] 34 (0, 0)) (by (with_reducible repeat (first | refine blk_drewN ?_ _ | refine blk_drew ?_ | refine blk_alloc ?_ _)); exact BK572.out)) : gb572 ≠ gb627)); have n8_ := Aside0.mk ((by rw [hg]; exact Nat.ne_of_gt (blk_lt (g := gb572) (o := .cells #[.int .i64 a1_0, .int .i64 a1_1, .string a1_2] 34 (0, 0)) (by (with_reducible repeat (first | refine blk_drewN ?_ _ | refine blk_drew ?_ | refine blk_alloc ?_ _)); exact BK572.out)) : gb627 ≠ gb572)); have n9_ := Aside0.mk ((by rw [hg]; exact Nat.ne_of_lt (blk_lt (g := gb573) (o := .cells #[.int .i64 a2_0, .int .i64 a2_1, .string a2_2] 34 (0, 0)) (by (with_reducible repeat (first | refine blk_drewN ?_ _ | refine blk_drew ?_ | refine blk_alloc ?_ _)); exact BK573.out)) : gb573 ≠ gb627)); have n10_ := Aside0.mk ((by rw [hg]; exact Nat.ne_of_gt (blk_lt (g := gb573) (o := .cells #[.int .i64 a2_0, .int .i64 a2_1, .string a2_2] 34 (0, 0)) (by (with_reducible repeat (first | refine blk_drewN ?_ _ | refine blk_drew ?_ | refine blk_alloc ?_ _)); exact BK573.out)) : gb627 ≠ gb573)); have n11_ := Aside0.mk ((by rw [hg]; exact Nat.ne_of_lt (blk_lt (g := gb574) (o := .cells #[.int .i64 0, .int .i64 0, .string (⟨#[]⟩ : ByteArray)] 34 (0, 0)) (by (with_reducible repeat (first | refine blk_drewN ?_ _ | refine blk_drew ?_ | refine blk_alloc ?_ _)); exact BK574.out)) : gb574 ≠ gb627)); have n12_ := Aside0.mk ((by rw [hg]; exact Nat.ne_of_gt (blk_lt (g := gb574) (o := .cells #[.int .i64 0, .int .i64 0, .string (⟨#[]⟩ : ByteArray)] 34 (0, 0)) (by (with_reducible repeat (first | refine blk_drewN ?_ _ | refine blk_drew ?_ | refine blk_alloc ?_ _)); exact BK574.out)) : gb627 ≠ gb574)); clear BK572; clear BK573; clear BK574; clear HB; have BK572 := n0_; have BK573 := n1_; have BK574 := n2_; have HB := n3_; have BK627 := n4_; have GW627 := n5_; have GE627 := n6_; have NB572_627 := n7_; have NB627_572 := n8_; have NB573_627 := n9_; have NB627_573 := n10_; have NB574_627 := n11_; have NB627_574 := n12_; clear n0_ n1_ n2_ n3_ n4_ n5_ n6_ n7_ n8_ n9_ n10_ n11_ n12_; clear hb hbox hg) | ((with_reducible refine gate_dst (N := 11) rfl ?_); refine box_event ?hg (N := 11) ?hd (cs := #[.int .i64 0, .int .i64 0, .string (⟨#[]⟩ : ByteArray)]) (t := 34) ?hr ?_; (case hd => rfl); (case hg => rfl); (case hr => first | (go_simp; done) | (go_simp; rfl)); intro gb628 hg w209 hbox hb; have n0_ := Aside0.mk (blk_below (g := gb572) (o := .cells #[.int .i64 a1_0, .int .i64 a1_1, .string a1_2] 34 (0, 0)) (by (with_reducible repeat (first | refine blk_drewN ?_ _ | refine blk_drew ?_ | refine blk_alloc ?_ _)); exact BK572.out) hb); have n1_ := Aside0.mk (blk_below (g := gb573) (o := .cells #[.int .i64 a2_0, .int .i64 a2_1, .string a2_2] 34 (0, 0)) (by (with_reducible repeat (first | refine blk_drewN ?_ _ | refine blk_drew ?_ | refine blk_alloc ?_ _)); exact BK573.out) hb); have n2_ := Aside0.mk (blk_below (g := gb574) (o := .cells #[.int .i64 0, .int .i64 0, .string (⟨#[]⟩ : ByteArray)] 34 (0, 0)) (by (with_reducible repeat (first | refine blk_drewN ?_ _ | refine blk_drew ?_ | refine blk_alloc ?_ _)); exact BK574.out) hb); have n3_ := Aside0.mk (blk_below (g := gb627) (o := .cells #[.int .i64 0, .int .i64 0, .string (⟨#[]⟩ : ByteArray)] 34 (0, 0)) (by (with_reducible repeat (first | refine blk_drewN ?_ _ | refine blk_drew ?_ | refine blk_alloc ?_ _)); exact BK627.out) hb); have n4_ := Aside0.mk (below_step (by repeat (first | (with_reducible first | exact HB.out | apply below_alloc | apply pw_below_drewN | apply below_drew1 | refine below_set ?_ GE572.out | refine below_set ?_ GE573.out | refine below_set ?_ GE574.out | refine below_set ?_ GE627.out) | exact HB.out)) hb); have n5_ := Aside0.mk (hbox); have n6_ := Aside0.mk ((by rw [hg]; exact (below_size (by repeat (first | (with_reducible first | exact HB.out | apply below_alloc | apply pw_below_drewN | apply below_drew1 | refine below_set ?_ GE572.out | refine below_set ?_ GE573.out | refine below_set ?_ GE574.out | refine below_set ?_ GE627.out) | exact HB.out))) : w.heap.size ≤ gb628)); have n7_ := Aside0.mk ((by rw [hg]; exact (below_size (by repeat (first | (with_reducible first | exact HB.out | apply below_alloc | apply pw_below_drewN | apply below_drew1 | refine below_set ?_ GE572.out | refine below_set ?_ GE573.out | refine below_set ?_ GE574.out | refine below_set ?_ GE627.out) | exact HB.out))) : w.heap.size ≤ gb628)); have n8_ := Aside0.mk ((by rw [hg]; exact Nat.ne_of_lt (blk_lt (g := gb572) (o := .cells #[.int .i64 a1_0, .int .i64 a1_1, .string a1_2] 34 (0, 0)) (by (with_reducible repeat (first | refine blk_drewN ?_ _ | refine blk_drew ?_ | refine blk_alloc ?_ _)); exact BK572.out)) : gb572 ≠ gb628)); have n9_ := Aside0.mk ((by rw [hg]; exact Nat.ne_of_gt (blk_lt (g := gb572) (o := .cells #[.int .i64 a1_0, .int .i64 a1_1, .string a1_2] 34 (0, 0)) (by (with_reducible repeat (first | refine blk_drewN ?_ _ | refine blk_drew ?_ | refine blk_alloc ?_ _)); exact BK572.out)) : gb628 ≠ gb572)); have n10_ := Aside0.mk ((by rw [hg]; exact Nat.ne_of_lt (blk_lt (g := gb573) (o := .cells #[.int .i64 a2_0, .int .i64 a2_1, .string a2_2] 34 (0, 0)) (by (with_reducible repeat (first | refine blk_drewN ?_ _ | refine blk_drew ?_ | refine blk_alloc ?_ _)); exact BK573.out)) : gb573 ≠ gb628)); have n11_ := Aside0.mk ((by rw [hg]; exact Nat.ne_of_gt (blk_lt (g := gb573) (o := .cells #[.int .i64 a2_0, .int .i64 a2_1, .string a2_2] 34 (0, 0)) (by (with_reducible repeat (first | refine blk_drewN ?_ _ | refine blk_drew ?_ | refine blk_alloc ?_ _)); exact BK573.out)) : gb628 ≠ gb573)); have n12_ := Aside0.mk ((by rw [hg]; exact Nat.ne_of_lt (blk_lt (g := gb574) (o := .cells #[.int .i64 0, .int .i64 0, .string (⟨#[]⟩ : ByteArray)] 34 (0, 0)) (by (with_reducible repeat (first | refine blk_drewN ?_ _ | refine blk_drew ?_ | refine blk_alloc ?_ _)); exact BK574.out)) : gb574 ≠ gb628)); have n13_ := Aside0.mk ((by rw [hg]; exact Nat.ne_of_gt (blk_lt (g := gb574) (o := .cells #[.int .i64 0, .int .i64 0, .string (⟨#[]⟩ : ByteArray)] 34 (0, 0)) (by (with_reducible repeat (first | refine blk_drewN ?_ _ | refine blk_drew ?_ | refine blk_alloc ?_ _)); exact BK574.out)) : gb628 ≠ gb574)); have n14_ := Aside0.mk ((by rw [hg]; exact Nat.ne_of_lt (blk_lt (g := gb627) (o := .cells #[.int .i64 0, .int .i64 0, .string (⟨#[]⟩ : ByteArray)] 34 (0, 0)) (by (with_reducible repeat (first | refine blk_drewN ?_ _ | refine blk_drew ?_ | refine blk_alloc ?_ _)); exact BK627.out)) : gb627 ≠ gb628)); have n15_ := Aside0.mk ((by rw [hg]; exact Nat.ne_of_gt (blk_lt (g := gb627) (o := .cells #[.int .i64 0, .int .i64 0, .string (⟨#[]⟩ : ByteArray)] 34 (0, 0)) (by (with_reducible repeat (first | refine blk_drewN ?_ _ | refine blk_drew ?_ | refine blk_alloc ?_ _)); exact BK627.out)) : gb628 ≠ gb627)); clear BK572; clear BK573; clear BK574; clear BK627; clear HB; have BK572 := n0_; have BK573 := n1_; have BK574 := n2_; have BK627 := n3_; have HB := n4_; have BK628 := n5_; have GW628 := n6_; have GE628 := n7_; have NB572_628 := n8_; have NB628_572 := n9_; have NB573_628 := n10_; have NB628_573 := n11_; have NB574_628 := n12_; have NB628_574 := n13_; have NB627_628 := n14_; have NB628_627 := n15_; clear n0_ n1_ n2_ n3_ n4_ n5_ n6_ n7_ n8_ n9_ n10_ n11_ n12_ n13_ n14_ n15_; clear hb hbox hg; have hnb210 := NB627_572.out; have hnc210 := NB572_627.out; have hnb211 := NB627_573.out; have hnc211 := NB573_627.out; have hnb212 := NB627_574.out; have hnc212 := NB574_627.out; have hnb213 := NB627_628.out; have hnc213 := NB628_627.out; have hcz214_0 : w209.cell? ⟨gb627, 0, none⟩ = some (.int .i64 0) := (blk_cell BK627.out 0).trans rfl; have hcz214_1 : w209.cell? ⟨gb627, 1, none⟩ = some (.int .i64 0) := (blk_cell BK627.out 1).trans rfl; have hcz214_2 : w209.cell? ⟨gb627, 2, none⟩ = some (.string (⟨#[]⟩ : ByteArray)) := (blk_cell BK627.out 2).trans rfl; have hfz214_0 := blk_frozen BK627.out 0; have hfz214_1 := blk_frozen BK627.out 1; have hfz214_2 := blk_frozen BK627.out 2; have hnb215 := NB628_572.out; have hnc215 := NB572_628.out; have hnb216 := NB628_573.out; have hnc216 := NB573_628.out; have hnb217 := NB628_574.out; have hnc217 := NB574_628.out; have hcz218_0 : w209.cell? ⟨gb628, 0, none⟩ = some (.int .i64 0) := (blk_cell BK628.out 0).trans rfl; have hcz218_1 : w209.cell? ⟨gb628, 1, none⟩ = some (.int .i64 0) := (blk_cell BK628.out 1).trans rfl; have hcz218_2 : w209.cell? ⟨gb628, 2, none⟩ = some (.string (⟨#[]⟩ : ByteArray)) := (blk_cell BK628.out 2).trans rfl; have hfz218_0 := blk_frozen BK628.out 0; have hfz218_1 := blk_frozen BK628.out 1; have hfz218_2 := blk_frozen BK628.out 2; have hcz219_0 : w209.cell? ⟨gb574, 0, none⟩ = some (.int .i64 0) := (blk_cell BK574.out 0).trans rfl; have hcz219_1 : w209.cell? ⟨gb574, 1, none⟩ = some (.int .i64 0) := (blk_cell BK574.out 1).trans rfl; have hcz219_2 : w209.cell? ⟨gb574, 2, none⟩ = some (.string (⟨#[]⟩ : ByteArray)) := (blk_cell BK574.out 2).trans rfl; have hfz219_0 := blk_frozen BK574.out 0; have hfz219_1 := blk_frozen BK574.out 1; have hfz219_2 := blk_frozen BK574.out 2))
                                      refine bodyPost_ret (results_ct rfl _ _ gb574 34 #[.int .i64 t621, .int .i64 t622, .string t623] (0, 0) _ rfl (by (with_reducible repeat (first | refine blk_drewN ?_ _ | refine blk_drew ?_ | refine blk_alloc ?_ _)); refine blk_put (cs := #[.int .i64 t621, .int .i64 t622, .string (⟨#[]⟩ : ByteArray)]) ?_ 2 _ rfl; (with_reducible repeat (first | refine blk_drewN ?_ _ | refine blk_drew ?_ | refine blk_alloc ?_ _)); refine blk_put (cs := #[.int .i64 t621, .int .i64 0, .string (⟨#[]⟩ : ByteArray)]) ?_ 1 _ rfl; (with_reducible repeat (first | refine blk_drewN ?_ _ | refine blk_drew ?_ | refine blk_alloc ?_ _)); refine blk_put (cs := #[.int .i64 0, .int .i64 0, .string (⟨#[]⟩ : ByteArray)]) ?_ 0 _ rfl; (with_reducible repeat (first | refine blk_drewN ?_ _ | refine blk_drew ?_ | refine blk_alloc ?_ _)); refine blk_far ?_ NB574_628.out _; (with_reducible repeat (first | refine blk_drewN ?_ _ | refine blk_drew ?_ | refine blk_alloc ?_ _)); refine blk_far ?_ NB574_628.out _; (with_reducible repeat (first | refine blk_drewN ?_ _ | refine blk_drew ?_ | refine blk_alloc ?_ _)); refine blk_far ?_ NB574_628.out _; (with_reducible repeat (first | refine blk_drewN ?_ _ | refine blk_drew ?_ | refine blk_alloc ?_ _)); refine blk_far ?_ NB574_627.out _; (with_reducible repeat (first | refine blk_drewN ?_ _ | refine blk_drew ?_ | refine blk_alloc ?_ _)); refine blk_far ?_ NB574_627.out _; (with_reducible repeat (first | refine blk_drewN ?_ _ | refine blk_drew ?_ | refine blk_alloc ?_ _)); refine blk_far ?_ NB574_627.out _; (with_reducible repeat (first | refine blk_drewN ?_ _ | refine blk_drew ?_ | refine blk_alloc ?_ _)); exact BK574.out) Try.underlying34 rfl (by kernel_rfl)) rfl ?_
                                      exact ⟨by first | rfl | (simp [errW_none, errW_some] <;> rfl) | (simp [*, errW_none, errW_some] <;> rfl), by repeat (first | (with_reducible first | exact HB.out | apply below_alloc | apply pw_below_drewN | apply below_drew1 | refine below_set ?_ GE572.out | refine below_set ?_ GE573.out | refine below_set ?_ GE574.out | refine below_set ?_ GE627.out | refine below_set ?_ GE628.out) | exact HB.out)⟩
                                    · rw [if_neg c201] at H
                                      have c201b0 : (a0 == 14) = false := beq_eq_false_iff_ne.mpr c201
                                      have c201b1 : (a0 != 14) = true := bne_iff_ne.mpr c201
                                      simp only [Option.some.injEq, Prod.mk.injEq] at H
                                      obtain ⟨rfl, rfl, rfl, rfl⟩ := H
                                      have hnb220 := NB573_572.out
                                      have hnc220 := NB572_573.out
                                      have hnb221 := NB573_574.out
                                      have hnc221 := NB574_573.out
                                      have hcz222_0 : wc.cell? ⟨gb573, 0, none⟩ = some (.int .i64 a2_0) := (blk_cell BK573.out 0).trans rfl
                                      have hcz222_1 : wc.cell? ⟨gb573, 1, none⟩ = some (.int .i64 a2_1) := (blk_cell BK573.out 1).trans rfl
                                      have hcz222_2 : wc.cell? ⟨gb573, 2, none⟩ = some (.string a2_2) := (blk_cell BK573.out 2).trans rfl
                                      have hfz222_0 := blk_frozen BK573.out 0
                                      have hfz222_1 := blk_frozen BK573.out 1
                                      have hfz222_2 := blk_frozen BK573.out 2
                                      have hnb223 := NB572_574.out
                                      have hnc223 := NB574_572.out
                                      have hcz224_0 : wc.cell? ⟨gb572, 0, none⟩ = some (.int .i64 a1_0) := (blk_cell BK572.out 0).trans rfl
                                      have hcz224_1 : wc.cell? ⟨gb572, 1, none⟩ = some (.int .i64 a1_1) := (blk_cell BK572.out 1).trans rfl
                                      have hcz224_2 : wc.cell? ⟨gb572, 2, none⟩ = some (.string a1_2) := (blk_cell BK572.out 2).trans rfl
                                      have hfz224_0 := blk_frozen BK572.out 0
                                      have hfz224_1 := blk_frozen BK572.out 1
                                      have hfz224_2 := blk_frozen BK572.out 2
                                      go_wp2_with (first | ((with_reducible refine gate_callee (f := 100) rfl ?_); refine goesL_ (some 167) rfl rfl Try.func100 (by kernel_rfl) rfl #[.int .i64 a1_0, .int .i64 a1_1, .int .i64 a2_1] rfl (by (try simp only [List.map_toArray, List.map_cons, List.map_nil]); first | done | rfl | (simp only [List.length_drop, List.length_take]; rfl)) ?_; (with_reducible refine (spec_l4Divide.calls kj88 a1_0 a1_1 a2_1 t621 t622 t623 t624 t625 t626 _ A200.out).mono ?_); rintro e w225 ⟨rfl, hb⟩; refine ⟨_, rfl, ?_⟩; have n0_ := Aside0.mk (blk_below (g := gb572) (o := .cells #[.int .i64 a1_0, .int .i64 a1_1, .string a1_2] 34 (0, 0)) (by (with_reducible repeat (first | refine blk_drewN ?_ _ | refine blk_drew ?_ | refine blk_alloc ?_ _)); exact BK572.out) hb); have n1_ := Aside0.mk (blk_below (g := gb573) (o := .cells #[.int .i64 a2_0, .int .i64 a2_1, .string a2_2] 34 (0, 0)) (by (with_reducible repeat (first | refine blk_drewN ?_ _ | refine blk_drew ?_ | refine blk_alloc ?_ _)); exact BK573.out) hb); have n2_ := Aside0.mk (blk_below (g := gb574) (o := .cells #[.int .i64 0, .int .i64 0, .string (⟨#[]⟩ : ByteArray)] 34 (0, 0)) (by (with_reducible repeat (first | refine blk_drewN ?_ _ | refine blk_drew ?_ | refine blk_alloc ?_ _)); exact BK574.out) hb); have n3_ := Aside0.mk (below_step (by repeat (first | (with_reducible first | exact HB.out | apply below_alloc | apply pw_below_drewN | apply below_drew1 | refine below_set ?_ GE572.out | refine below_set ?_ GE573.out | refine below_set ?_ GE574.out) | exact HB.out)) hb); clear BK572; clear BK573; clear BK574; clear HB; have BK572 := n0_; have BK573 := n1_; have BK574 := n2_; have HB := n3_; clear n0_ n1_ n2_ n3_; (try clear hb); (try clear hb2); (try clear hk); (try clear hi)) | ((with_reducible refine gate_dst (N := 10) rfl ?_); refine box_event ?hg (N := 10) ?hd (cs := #[.int .i64 0, .int .i64 0, .string (⟨#[]⟩ : ByteArray)]) (t := 34) ?hr ?_; (case hd => rfl); (case hg => rfl); (case hr => first | (go_simp; done) | (go_simp; rfl)); intro gb627 hg w226 hbox hb; have n0_ := Aside0.mk (blk_below (g := gb572) (o := .cells #[.int .i64 a1_0, .int .i64 a1_1, .string a1_2] 34 (0, 0)) (by (with_reducible repeat (first | refine blk_drewN ?_ _ | refine blk_drew ?_ | refine blk_alloc ?_ _)); exact BK572.out) hb); have n1_ := Aside0.mk (blk_below (g := gb573) (o := .cells #[.int .i64 a2_0, .int .i64 a2_1, .string a2_2] 34 (0, 0)) (by (with_reducible repeat (first | refine blk_drewN ?_ _ | refine blk_drew ?_ | refine blk_alloc ?_ _)); exact BK573.out) hb); have n2_ := Aside0.mk (blk_below (g := gb574) (o := .cells #[.int .i64 0, .int .i64 0, .string (⟨#[]⟩ : ByteArray)] 34 (0, 0)) (by (with_reducible repeat (first | refine blk_drewN ?_ _ | refine blk_drew ?_ | refine blk_alloc ?_ _)); exact BK574.out) hb); have n3_ := Aside0.mk (below_step (by repeat (first | (with_reducible first | exact HB.out | apply below_alloc | apply pw_below_drewN | apply below_drew1 | refine below_set ?_ GE572.out | refine below_set ?_ GE573.out | refine below_set ?_ GE574.out) | exact HB.out)) hb); have n4_ := Aside0.mk (hbox); have n5_ := Aside0.mk ((by rw [hg]; exact (below_size (by repeat (first | (with_reducible first | exact HB.out | apply below_alloc | apply pw_below_drewN | apply below_drew1 | refine below_set ?_ GE572.out | refine below_set ?_ GE573.out | refine below_set ?_ GE574.out) | exact HB.out))) : w.heap.size ≤ gb627)); have n6_ := Aside0.mk ((by rw [hg]; exact (below_size (by repeat (first | (with_reducible first | exact HB.out | apply below_alloc | apply pw_below_drewN | apply below_drew1 | refine below_set ?_ GE572.out | refine below_set ?_ GE573.out | refine below_set ?_ GE574.out) | exact HB.out))) : w.heap.size ≤ gb627)); have n7_ := Aside0.mk ((by rw [hg]; exact Nat.ne_of_lt (blk_lt (g := gb572) (o := .cells #[.int .i64 a1_0, .int .i64 a1_1, .string a1_2] 34 (0, 0)) (by (with_reducible repeat (first | refine blk_drewN ?_ _ | refine blk_drew ?_ | refine blk_alloc ?_ _)); exact BK572.out)) : gb572 ≠ gb627)); have n8_ := Aside0.mk ((by rw [hg]; exact Nat.ne_of_gt (blk_lt (g := gb572) (o := .cells #[.int .i64 a1_0, .int .i64 a1_1, .string a1_2] 34 (0, 0)) (by (with_reducible repeat (first | refine blk_drewN ?_ _ | refine blk_drew ?_ | refine blk_alloc ?_ _)); exact BK572.out)) : gb627 ≠ gb572)); have n9_ := Aside0.mk ((by rw [hg]; exact Nat.ne_of_lt (blk_lt (g := gb573) (o := .cells #[.int .i64 a2_0, .int .i64 a2_1, .string a2_2] 34 (0, 0)) (by (with_reducible repeat (first | refine blk_drewN ?_ _ | refine blk_drew ?_ | refine blk_alloc ?_ _)); exact BK573.out)) : gb573 ≠ gb627)); have n10_ := Aside0.mk ((by rw [hg]; exact Nat.ne_of_gt (blk_lt (g := gb573) (o := .cells #[.int .i64 a2_0, .int .i64 a2_1, .string a2_2] 34 (0, 0)) (by (with_reducible repeat (first | refine blk_drewN ?_ _ | refine blk_drew ?_ | refine blk_alloc ?_ _)); exact BK573.out)) : gb627 ≠ gb573)); have n11_ := Aside0.mk ((by rw [hg]; exact Nat.ne_of_lt (blk_lt (g := gb574) (o := .cells #[.int .i64 0, .int .i64 0, .string (⟨#[]⟩ : ByteArray)] 34 (0, 0)) (by (with_reducible repeat (first | refine blk_drewN ?_ _ | refine blk_drew ?_ | refine blk_alloc ?_ _)); exact BK574.out)) : gb574 ≠ gb627)); have n12_ := Aside0.mk ((by rw [hg]; exact Nat.ne_of_gt (blk_lt (g := gb574) (o := .cells #[.int .i64 0, .int .i64 0, .string (⟨#[]⟩ : ByteArray)] 34 (0, 0)) (by (with_reducible repeat (first | refine blk_drewN ?_ _ | refine blk_drew ?_ | refine blk_alloc ?_ _)); exact BK574.out)) : gb627 ≠ gb574)); clear BK572; clear BK573; clear BK574; clear HB; have BK572 := n0_; have BK573 := n1_; have BK574 := n2_; have HB := n3_; have BK627 := n4_; have GW627 := n5_; have GE627 := n6_; have NB572_627 := n7_; have NB627_572 := n8_; have NB573_627 := n9_; have NB627_573 := n10_; have NB574_627 := n11_; have NB627_574 := n12_; clear n0_ n1_ n2_ n3_ n4_ n5_ n6_ n7_ n8_ n9_ n10_ n11_ n12_; clear hb hbox hg) | ((with_reducible refine gate_dst (N := 11) rfl ?_); refine box_event ?hg (N := 11) ?hd (cs := #[.int .i64 0, .int .i64 0, .string (⟨#[]⟩ : ByteArray)]) (t := 34) ?hr ?_; (case hd => rfl); (case hg => rfl); (case hr => first | (go_simp; done) | (go_simp; rfl)); intro gb628 hg w227 hbox hb; have n0_ := Aside0.mk (blk_below (g := gb572) (o := .cells #[.int .i64 a1_0, .int .i64 a1_1, .string a1_2] 34 (0, 0)) (by (with_reducible repeat (first | refine blk_drewN ?_ _ | refine blk_drew ?_ | refine blk_alloc ?_ _)); exact BK572.out) hb); have n1_ := Aside0.mk (blk_below (g := gb573) (o := .cells #[.int .i64 a2_0, .int .i64 a2_1, .string a2_2] 34 (0, 0)) (by (with_reducible repeat (first | refine blk_drewN ?_ _ | refine blk_drew ?_ | refine blk_alloc ?_ _)); exact BK573.out) hb); have n2_ := Aside0.mk (blk_below (g := gb574) (o := .cells #[.int .i64 0, .int .i64 0, .string (⟨#[]⟩ : ByteArray)] 34 (0, 0)) (by (with_reducible repeat (first | refine blk_drewN ?_ _ | refine blk_drew ?_ | refine blk_alloc ?_ _)); exact BK574.out) hb); have n3_ := Aside0.mk (blk_below (g := gb627) (o := .cells #[.int .i64 0, .int .i64 0, .string (⟨#[]⟩ : ByteArray)] 34 (0, 0)) (by (with_reducible repeat (first | refine blk_drewN ?_ _ | refine blk_drew ?_ | refine blk_alloc ?_ _)); exact BK627.out) hb); have n4_ := Aside0.mk (below_step (by repeat (first | (with_reducible first | exact HB.out | apply below_alloc | apply pw_below_drewN | apply below_drew1 | refine below_set ?_ GE572.out | refine below_set ?_ GE573.out | refine below_set ?_ GE574.out | refine below_set ?_ GE627.out) | exact HB.out)) hb); have n5_ := Aside0.mk (hbox); have n6_ := Aside0.mk ((by rw [hg]; exact (below_size (by repeat (first | (with_reducible first | exact HB.out | apply below_alloc | apply pw_below_drewN | apply below_drew1 | refine below_set ?_ GE572.out | refine below_set ?_ GE573.out | refine below_set ?_ GE574.out | refine below_set ?_ GE627.out) | exact HB.out))) : w.heap.size ≤ gb628)); have n7_ := Aside0.mk ((by rw [hg]; exact (below_size (by repeat (first | (with_reducible first | exact HB.out | apply below_alloc | apply pw_below_drewN | apply below_drew1 | refine below_set ?_ GE572.out | refine below_set ?_ GE573.out | refine below_set ?_ GE574.out | refine below_set ?_ GE627.out) | exact HB.out))) : w.heap.size ≤ gb628)); have n8_ := Aside0.mk ((by rw [hg]; exact Nat.ne_of_lt (blk_lt (g := gb572) (o := .cells #[.int .i64 a1_0, .int .i64 a1_1, .string a1_2] 34 (0, 0)) (by (with_reducible repeat (first | refine blk_drewN ?_ _ | refine blk_drew ?_ | refine blk_alloc ?_ _)); exact BK572.out)) : gb572 ≠ gb628)); have n9_ := Aside0.mk ((by rw [hg]; exact Nat.ne_of_gt (blk_lt (g := gb572) (o := .cells #[.int .i64 a1_0, .int .i64 a1_1, .string a1_2] 34 (0, 0)) (by (with_reducible repeat (first | refine blk_drewN ?_ _ | refine blk_drew ?_ | refine blk_alloc ?_ _)); exact BK572.out)) : gb628 ≠ gb572)); have n10_ := Aside0.mk ((by rw [hg]; exact Nat.ne_of_lt (blk_lt (g := gb573) (o := .cells #[.int .i64 a2_0, .int .i64 a2_1, .string a2_2] 34 (0, 0)) (by (with_reducible repeat (first | refine blk_drewN ?_ _ | refine blk_drew ?_ | refine blk_alloc ?_ _)); exact BK573.out)) : gb573 ≠ gb628)); have n11_ := Aside0.mk ((by rw [hg]; exact Nat.ne_of_gt (blk_lt (g := gb573) (o := .cells #[.int .i64 a2_0, .int .i64 a2_1, .string a2_2] 34 (0, 0)) (by (with_reducible repeat (first | refine blk_drewN ?_ _ | refine blk_drew ?_ | refine blk_alloc ?_ _)); exact BK573.out)) : gb628 ≠ gb573)); have n12_ := Aside0.mk ((by rw [hg]; exact Nat.ne_of_lt (blk_lt (g := gb574) (o := .cells #[.int .i64 0, .int .i64 0, .string (⟨#[]⟩ : ByteArray)] 34 (0, 0)) (by (with_reducible repeat (first | refine blk_drewN ?_ _ | refine blk_drew ?_ | refine blk_alloc ?_ _)); exact BK574.out)) : gb574 ≠ gb628)); have n13_ := Aside0.mk ((by rw [hg]; exact Nat.ne_of_gt (blk_lt (g := gb574) (o := .cells #[.int .i64 0, .int .i64 0, .string (⟨#[]⟩ : ByteArray)] 34 (0, 0)) (by (with_reducible repeat (first | refine blk_drewN ?_ _ | refine blk_drew ?_ | refine blk_alloc ?_ _)); exact BK574.out)) : gb628 ≠ gb574)); have n14_ := Aside0.mk ((by rw [hg]; exact Nat.ne_of_lt (blk_lt (g := gb627) (o := .cells #[.int .i64 0, .int .i64 0, .string (⟨#[]⟩ : ByteArray)] 34 (0, 0)) (by (with_reducible repeat (first | refine blk_drewN ?_ _ | refine blk_drew ?_ | refine blk_alloc ?_ _)); exact BK627.out)) : gb627 ≠ gb628)); have n15_ := Aside0.mk ((by rw [hg]; exact Nat.ne_of_gt (blk_lt (g := gb627) (o := .cells #[.int .i64 0, .int .i64 0, .string (⟨#[]⟩ : ByteArray)] 34 (0, 0)) (by (with_reducible repeat (first | refine blk_drewN ?_ _ | refine blk_drew ?_ | refine blk_alloc ?_ _)); exact BK627.out)) : gb628 ≠ gb627)); clear BK572; clear BK573; clear BK574; clear BK627; clear HB; have BK572 := n0_; have BK573 := n1_; have BK574 := n2_; have BK627 := n3_; have HB := n4_; have BK628 := n5_; have GW628 := n6_; have GE628 := n7_; have NB572_628 := n8_; have NB628_572 := n9_; have NB573_628 := n10_; have NB628_573 := n11_; have NB574_628 := n12_; have NB628_574 := n13_; have NB627_628 := n14_; have NB628_627 := n15_; clear n0_ n1_ n2_ n3_ n4_ n5_ n6_ n7_ n8_ n9_ n10_ n11_ n12_ n13_ n14_ n15_; clear hb hbox hg; have hnb228 := NB627_572.out; have hnc228 := NB572_627.out; have hnb229 := NB627_573.out; have hnc229 := NB573_627.out; have hnb230 := NB627_574.out; have hnc230 := NB574_627.out; have hnb231 := NB627_628.out; have hnc231 := NB628_627.out; have hcz232_0 : w227.cell? ⟨gb627, 0, none⟩ = some (.int .i64 0) := (blk_cell BK627.out 0).trans rfl; have hcz232_1 : w227.cell? ⟨gb627, 1, none⟩ = some (.int .i64 0) := (blk_cell BK627.out 1).trans rfl; have hcz232_2 : w227.cell? ⟨gb627, 2, none⟩ = some (.string (⟨#[]⟩ : ByteArray)) := (blk_cell BK627.out 2).trans rfl; have hfz232_0 := blk_frozen BK627.out 0; have hfz232_1 := blk_frozen BK627.out 1; have hfz232_2 := blk_frozen BK627.out 2; have hnb233 := NB628_572.out; have hnc233 := NB572_628.out; have hnb234 := NB628_573.out; have hnc234 := NB573_628.out; have hnb235 := NB628_574.out; have hnc235 := NB574_628.out; have hcz236_0 : w227.cell? ⟨gb628, 0, none⟩ = some (.int .i64 0) := (blk_cell BK628.out 0).trans rfl; have hcz236_1 : w227.cell? ⟨gb628, 1, none⟩ = some (.int .i64 0) := (blk_cell BK628.out 1).trans rfl; have hcz236_2 : w227.cell? ⟨gb628, 2, none⟩ = some (.string (⟨#[]⟩ : ByteArray)) := (blk_cell BK628.out 2).trans rfl; have hfz236_0 := blk_frozen BK628.out 0; have hfz236_1 := blk_frozen BK628.out 1; have hfz236_2 := blk_frozen BK628.out 2; have hcz237_0 : w227.cell? ⟨gb574, 0, none⟩ = some (.int .i64 0) := (blk_cell BK574.out 0).trans rfl; have hcz237_1 : w227.cell? ⟨gb574, 1, none⟩ = some (.int .i64 0) := (blk_cell BK574.out 1).trans rfl; have hcz237_2 : w227.cell? ⟨gb574, 2, none⟩ = some (.string (⟨#[]⟩ : ByteArray)) := (blk_cell BK574.out 2).trans rfl; have hfz237_0 := blk_frozen BK574.out 0; have hfz237_1 := blk_frozen BK574.out 1; have hfz237_2 := blk_frozen BK574.out 2))
                                      refine bodyPost_ret (results_ct rfl _ _ gb574 34 #[.int .i64 t624, .int .i64 t625, .string t626] (0, 0) _ rfl (by (with_reducible repeat (first | refine blk_drewN ?_ _ | refine blk_drew ?_ | refine blk_alloc ?_ _)); refine blk_put (cs := #[.int .i64 t624, .int .i64 t625, .string (⟨#[]⟩ : ByteArray)]) ?_ 2 _ rfl; (with_reducible repeat (first | refine blk_drewN ?_ _ | refine blk_drew ?_ | refine blk_alloc ?_ _)); refine blk_put (cs := #[.int .i64 t624, .int .i64 0, .string (⟨#[]⟩ : ByteArray)]) ?_ 1 _ rfl; (with_reducible repeat (first | refine blk_drewN ?_ _ | refine blk_drew ?_ | refine blk_alloc ?_ _)); refine blk_put (cs := #[.int .i64 0, .int .i64 0, .string (⟨#[]⟩ : ByteArray)]) ?_ 0 _ rfl; (with_reducible repeat (first | refine blk_drewN ?_ _ | refine blk_drew ?_ | refine blk_alloc ?_ _)); refine blk_far ?_ NB574_628.out _; (with_reducible repeat (first | refine blk_drewN ?_ _ | refine blk_drew ?_ | refine blk_alloc ?_ _)); refine blk_far ?_ NB574_628.out _; (with_reducible repeat (first | refine blk_drewN ?_ _ | refine blk_drew ?_ | refine blk_alloc ?_ _)); refine blk_far ?_ NB574_628.out _; (with_reducible repeat (first | refine blk_drewN ?_ _ | refine blk_drew ?_ | refine blk_alloc ?_ _)); refine blk_far ?_ NB574_627.out _; (with_reducible repeat (first | refine blk_drewN ?_ _ | refine blk_drew ?_ | refine blk_alloc ?_ _)); refine blk_far ?_ NB574_627.out _; (with_reducible repeat (first | refine blk_drewN ?_ _ | refine blk_drew ?_ | refine blk_alloc ?_ _)); refine blk_far ?_ NB574_627.out _; (with_reducible repeat (first | refine blk_drewN ?_ _ | refine blk_drew ?_ | refine blk_alloc ?_ _)); exact BK574.out) Try.underlying34 rfl (by kernel_rfl)) rfl ?_
                                      exact ⟨by first | rfl | (simp [errW_none, errW_some] <;> rfl) | (simp [*, errW_none, errW_some] <;> rfl), by repeat (first | (with_reducible first | exact HB.out | apply below_alloc | apply pw_below_drewN | apply below_drew1 | refine below_set ?_ GE572.out | refine below_set ?_ GE573.out | refine below_set ?_ GE574.out | refine below_set ?_ GE627.out | refine below_set ?_ GE628.out) | exact HB.out)⟩

end Go.Proofs.Ytajlomhnednghaa.R
