/- Texts of this session, put together (wip/tools/pack.py): Rx75. Conditions: none. -/
import Derived.Test.YtajlomhnednghaaBinam1
namespace Go.Proofs.Ytajlomhnednghaa.R
open Go.RowKit Go.Proofs.YtajlomhnednghaaW.PrintWords Go.Proofs.YtajlomhnednghaaW.PrintLast Go.Proofs.YtajlomhnednghaaW.PrintMore
attribute [local go_sem] max2_int min2_int max_two min_two max_three min_three max_four min_four   -- for this text's walks alone
set_option linter.unusedVariables false
set_option linter.unusedSimpArgs false

/-! ### impl_shift: function 95 -/
mutual
def impl_shift.j0 : Nat → Int → Int → Bool → Int → Int → ByteArray → Int → Int → ByteArray → Option (Int)
  | 0, _, _, _, _, _, _, _, _, _ => none
  | k + 1, x0, x7, x8, x486000, x486001, x486002, x487000, x487001, x487002 => if x8 = true then (impl_shift.j1 k x0 true x486000 x486001 x486002 x487000 x487001 x487002) else (impl_shift.j1 k x0 (decide ((IntKind.u64.wrap (x487001)) ≥ x7)) x486000 x486001 x486002 x487000 x487001 x487002)
def impl_shift.j1 : Nat → Int → Bool → Int → Int → ByteArray → Int → Int → ByteArray → Option (Int)
  | 0, _, _, _, _, _, _, _, _ => none
  | k + 1, x0, x27, x486000, x486001, x486002, x487000, x487001, x487002 => if x27 = true then (if x0 = 18 then ((impl_signed.f x486000).bind fun t489 => (if t489 = true then (if x486001 < 0 then (some 18446744073709551615) else (some 0)) else (some 0))) else (some 0)) else (if x0 = 17 then (if 0 ≤ (IntKind.u64.wrap (x487001)) then (some (shl .u64 (IntKind.u64.wrap (x486001)) (IntKind.u64.wrap (x487001)))) else (none)) else ((impl_signed.f x486000).bind fun t490 => (if t490 = true then (if 0 ≤ (IntKind.u64.wrap (x487001)) then (some (IntKind.u64.wrap (shr .i64 x486001 (IntKind.u64.wrap (x487001))))) else (none)) else (if 0 ≤ (IntKind.u64.wrap (x487001)) then (some (shr .u64 (IntKind.u64.wrap (x486001)) (IntKind.u64.wrap (x487001)))) else (none)))))
end
def impl_shift.f (k : Nat) (a0 : Int) (a1_0 : Int) (a1_1 : Int) (a1_2 : ByteArray) (a2_0 : Int) (a2_1 : Int) (a2_2 : ByteArray) : Option (Int) := (impl_bits.f k a1_0).bind fun t487 => ((impl_signed.f a1_0).bind fun t488 => (if t488 = true then (impl_shift.j0 k a0 t487 (decide (a2_1 < 0)) a1_0 a1_1 a1_2 a2_0 a2_1 a2_2) else (impl_shift.j0 k a0 t487 false a1_0 a1_1 a1_2 a2_0 a2_1 a2_2)))
theorem impl_shift.mono_l : ∀ k, (∀ y0 y1 y2 y3 y4 y5 y6 y7 y8, LeO (impl_shift.j0 k y0 y1 y2 y3 y4 y5 y6 y7 y8) (impl_shift.j0 (k + 1) y0 y1 y2 y3 y4 y5 y6 y7 y8)) ∧ (∀ y0 y1 y2 y3 y4 y5 y6 y7, LeO (impl_shift.j1 k y0 y1 y2 y3 y4 y5 y6 y7) (impl_shift.j1 (k + 1) y0 y1 y2 y3 y4 y5 y6 y7))
  | 0 => ⟨fun _ _ _ _ _ _ _ _ _ r h => by simp [impl_shift.j0] at h, fun _ _ _ _ _ _ _ _ r h => by simp [impl_shift.j1] at h⟩
  | k + 1 => by
    obtain ⟨ih0, ih1⟩ := impl_shift.mono_l k
    refine ⟨?_, ?_⟩
    · intro y0 y1 y2 y3 y4 y5 y6 y7 y8
      unfold impl_shift.j0
      repeat' first
      | (with_reducible exact ih0 _ _ _ _ _ _ _ _ _)
      | (with_reducible exact ih1 _ _ _ _ _ _ _ _)
      | (with_reducible exact impl_bits.mono _ _)
      | (with_reducible exact LeO.refl _)
      | (with_reducible exact LeO.none _)
      | (with_reducible refine LeO.ite ?_ ?_)
      | (with_reducible refine LeO.bind ?_ (fun _ => ?_))
      | exact ih0 _ _ _ _ _ _ _ _ _
      | exact ih1 _ _ _ _ _ _ _ _
      | exact impl_bits.mono _ _
      | exact LeO.none _
      | refine LeO.ite ?_ ?_
      | refine LeO.bind ?_ (fun _ => ?_)
    · intro y0 y1 y2 y3 y4 y5 y6 y7
      unfold impl_shift.j1
      repeat' first
      | (with_reducible exact ih0 _ _ _ _ _ _ _ _ _)
      | (with_reducible exact ih1 _ _ _ _ _ _ _ _)
      | (with_reducible exact impl_bits.mono _ _)
      | (with_reducible exact LeO.refl _)
      | (with_reducible exact LeO.none _)
      | (with_reducible refine LeO.ite ?_ ?_)
      | (with_reducible refine LeO.bind ?_ (fun _ => ?_))
      | exact ih0 _ _ _ _ _ _ _ _ _
      | exact ih1 _ _ _ _ _ _ _ _
      | exact impl_bits.mono _ _
      | exact LeO.none _
      | refine LeO.ite ?_ ?_
      | refine LeO.bind ?_ (fun _ => ?_)
theorem impl_shift.mono : ∀ a0 a1 a2 a3 a4 a5 a6 k, LeO (impl_shift.f k a0 a1 a2 a3 a4 a5 a6) (impl_shift.f (k + 1) a0 a1 a2 a3 a4 a5 a6) := by
  intro a0 a1 a2 a3 a4 a5 a6 k
  obtain ⟨ih0, ih1⟩ := impl_shift.mono_l k
  unfold impl_shift.f
  repeat' first
      | (with_reducible exact ih0 _ _ _ _ _ _ _ _ _)
      | (with_reducible exact ih1 _ _ _ _ _ _ _ _)
      | (with_reducible exact impl_bits.mono _ _)
      | (with_reducible exact LeO.refl _)
      | (with_reducible exact LeO.none _)
      | (with_reducible refine LeO.ite ?_ ?_)
      | (with_reducible refine LeO.bind ?_ (fun _ => ?_))
      | exact ih0 _ _ _ _ _ _ _ _ _
      | exact ih1 _ _ _ _ _ _ _ _
      | exact impl_bits.mono _ _
      | exact LeO.none _
      | refine LeO.ite ?_ ?_
      | refine LeO.bind ?_ (fun _ => ?_)
set_option maxHeartbeats 8000000 in
set_option maxRecDepth 100000 in
theorem impl_shift.calls (k : Nat) (a0 : Int) (a1_0 : Int) (a1_1 : Int) (a1_2 : ByteArray) (a2_0 : Int) (a2_1 : Int) (a2_2 : ByteArray) (r : Int) (w : World) (h : impl_shift.f k a0 a1_0 a1_1 a1_2 a2_0 a2_1 a2_2 = some r) :
    Calls Try.prog 95 #[.int .i64 a0, .agg #[.int .i64 a1_0, .int .i64 a1_1, .string a1_2], .agg #[.int .i64 a2_0, .int .i64 a2_1, .string a2_2]] w fun e w' => e = .returned (.int .u64 r) ∧ Below w.heap.size w w' := by
  have hu34 := Try.underlying34
  have HB := Aside0.mk (Below.refl w.heap.size w)
  have H : ((impl_bits.f k a1_0).bind fun t487 => ((impl_signed.f a1_0).bind fun t488 => (if t488 = true then (impl_shift.j0 k a0 t487 (decide (a2_1 < 0)) a1_0 a1_1 a1_2 a2_0 a2_1 a2_2) else (impl_shift.j0 k a0 t487 false a1_0 a1_1 a1_2 a2_0 a2_1 a2_2)))) = some r := h
  clear h
  replace H := Option.bind_eq_some_iff.mp H
  obtain ⟨t487, A40, H⟩ := H
  replace H : ((impl_signed.f a1_0).bind fun t488 => (if t488 = true then (impl_shift.j0 k a0 t487 (decide (a2_1 < 0)) a1_0 a1_1 a1_2 a2_0 a2_1 a2_2) else (impl_shift.j0 k a0 t487 false a1_0 a1_1 a1_2 a2_0 a2_1 a2_2))) = some r := H
  have A4 := Aside0.mk A40
  clear A40
  have HC5 := Aside0.mk H
  clear H
  go_enter Try.func95, Try.ntmps95
  go_upto_region 2 with (first | ((with_reducible refine gate_dst (N := 4) rfl ?_); refine box_event ?hg (N := 4) ?hd (cs := #[.int .i64 a1_0, .int .i64 a1_1, .string a1_2]) (t := 34) ?hr ?_; (case hd => rfl); (case hg => rfl); (case hr => first | (go_simp; done) | (go_simp; rfl)); intro gb485 hg w6 hbox hb; have n0_ := Aside0.mk (below_step (by repeat (first | (with_reducible first | exact HB.out | apply below_alloc | apply pw_below_drewN | apply below_drew1) | exact HB.out)) hb); have n1_ := Aside0.mk (hbox); have n2_ := Aside0.mk ((by rw [hg]; exact (below_size (by repeat (first | (with_reducible first | exact HB.out | apply below_alloc | apply pw_below_drewN | apply below_drew1) | exact HB.out))) : w.heap.size ≤ gb485)); have n3_ := Aside0.mk ((by rw [hg]; exact (below_size (by repeat (first | (with_reducible first | exact HB.out | apply below_alloc | apply pw_below_drewN | apply below_drew1) | exact HB.out))) : w.heap.size ≤ gb485)); clear HB; have HB := n0_; have BK485 := n1_; have GW485 := n2_; have GE485 := n3_; clear n0_ n1_ n2_ n3_; clear hb hbox hg) | ((with_reducible refine gate_dst (N := 5) rfl ?_); refine box_event ?hg (N := 5) ?hd (cs := #[.int .i64 a2_0, .int .i64 a2_1, .string a2_2]) (t := 34) ?hr ?_; (case hd => rfl); (case hg => rfl); (case hr => first | (go_simp; done) | (go_simp; rfl)); intro gb486 hg w7 hbox hb; have n0_ := Aside0.mk (blk_below (g := gb485) (o := .cells #[.int .i64 a1_0, .int .i64 a1_1, .string a1_2] 34 (0, 0)) (by (with_reducible repeat (first | refine blk_drewN ?_ _ | refine blk_drew ?_ | refine blk_alloc ?_ _)); exact BK485.out) hb); have n1_ := Aside0.mk (below_step (by repeat (first | (with_reducible first | exact HB.out | apply below_alloc | apply pw_below_drewN | apply below_drew1 | refine below_set ?_ GE485.out) | exact HB.out)) hb); have n2_ := Aside0.mk (hbox); have n3_ := Aside0.mk ((by rw [hg]; exact (below_size (by repeat (first | (with_reducible first | exact HB.out | apply below_alloc | apply pw_below_drewN | apply below_drew1 | refine below_set ?_ GE485.out) | exact HB.out))) : w.heap.size ≤ gb486)); have n4_ := Aside0.mk ((by rw [hg]; exact (below_size (by repeat (first | (with_reducible first | exact HB.out | apply below_alloc | apply pw_below_drewN | apply below_drew1 | refine below_set ?_ GE485.out) | exact HB.out))) : w.heap.size ≤ gb486)); have n5_ := Aside0.mk ((by rw [hg]; exact Nat.ne_of_lt (blk_lt (g := gb485) (o := .cells #[.int .i64 a1_0, .int .i64 a1_1, .string a1_2] 34 (0, 0)) (by (with_reducible repeat (first | refine blk_drewN ?_ _ | refine blk_drew ?_ | refine blk_alloc ?_ _)); exact BK485.out)) : gb485 ≠ gb486)); have n6_ := Aside0.mk ((by rw [hg]; exact Nat.ne_of_gt (blk_lt (g := gb485) (o := .cells #[.int .i64 a1_0, .int .i64 a1_1, .string a1_2] 34 (0, 0)) (by (with_reducible repeat (first | refine blk_drewN ?_ _ | refine blk_drew ?_ | refine blk_alloc ?_ _)); exact BK485.out)) : gb486 ≠ gb485)); clear BK485; clear HB; have BK485 := n0_; have HB := n1_; have BK486 := n2_; have GW486 := n3_; have GE486 := n4_; have NB485_486 := n5_; have NB486_485 := n6_; clear n0_ n1_ n2_ n3_ n4_ n5_ n6_; clear hb hbox hg; have hnb8 := NB485_486.out; have hnc8 := NB486_485.out; have hcz9_0 : w7.cell? ⟨gb485, 0, none⟩ = some (.int .i64 a1_0) := (blk_cell BK485.out 0).trans rfl; have hcz9_1 : w7.cell? ⟨gb485, 1, none⟩ = some (.int .i64 a1_1) := (blk_cell BK485.out 1).trans rfl; have hcz9_2 : w7.cell? ⟨gb485, 2, none⟩ = some (.string a1_2) := (blk_cell BK485.out 2).trans rfl; have hfz9_0 := blk_frozen BK485.out 0; have hfz9_1 := blk_frozen BK485.out 1; have hfz9_2 := blk_frozen BK485.out 2) | ((with_reducible refine gate_callee (f := 103) rfl ?_); refine goesL_ (some 11) rfl rfl Try.func103 (by kernel_rfl) rfl #[.int .i64 a1_0] rfl (by (try simp only [List.map_toArray, List.map_cons, List.map_nil]); first | done | rfl | (simp only [List.length_drop, List.length_take]; rfl)) ?_; (with_reducible refine (impl_bits.calls k a1_0 t487 _ A4.out).mono ?_); rintro e w' ⟨rfl, ⟨nd, rfl⟩⟩; refine ⟨_, rfl, ?_⟩))
  (try simp only [Act.put, List.setIfInBounds_toArray, List.set_cons_zero, List.set_cons_succ])
  go_cut [8] (fun v8 wc => ∃ (kq : Nat) (x8_4 : Bool), v8 = .bool x8_4 ∧ Aside0 (impl_shift.j0 kq a0 t487 x8_4 a1_0 a1_1 a1_2 a2_0 a2_1 a2_2 = some r) ∧ Aside0 (kq ≤ k) ∧ Aside0 (wc.heap[gb485]? = some (.cells #[.int .i64 a1_0, .int .i64 a1_1, .string a1_2] 34 (0, 0))) ∧ Aside0 (wc.heap[gb486]? = some (.cells #[.int .i64 a2_0, .int .i64 a2_1, .string a2_2] 34 (0, 0))) ∧ Aside0 (Below w.heap.size w wc))
  case first =>
    have H := HC5.out
    clear HC5
    replace H := Option.bind_eq_some_iff.mp H
    obtain ⟨t488, A100, H⟩ := H
    replace H : (if t488 = true then (impl_shift.j0 k a0 t487 (decide (a2_1 < 0)) a1_0 a1_1 a1_2 a2_0 a2_1 a2_2) else (impl_shift.j0 k a0 t487 false a1_0 a1_1 a1_2 a2_0 a2_1 a2_2)) = some r := H
    have A10 := Aside0.mk A100
    clear A100
    by_cases c11 : t488 = true
    · subst c11
      have H1 : (impl_shift.j0 k a0 t487 (decide (a2_1 < 0)) a1_0 a1_1 a1_2 a2_0 a2_1 a2_2) = some r := by rw [if_pos rfl] at H; exact H
      clear H
      have H := H1
      clear H1
      have H' := Aside0.mk H
      clear H
      have hnb12 := NB485_486.out
      have hnc12 := NB486_485.out
      have hcz13_0 : w7.cell? ⟨gb485, 0, none⟩ = some (.int .i64 a1_0) := (blk_cell BK485.out 0).trans rfl
      have hcz13_1 : w7.cell? ⟨gb485, 1, none⟩ = some (.int .i64 a1_1) := (blk_cell BK485.out 1).trans rfl
      have hcz13_2 : w7.cell? ⟨gb485, 2, none⟩ = some (.string a1_2) := (blk_cell BK485.out 2).trans rfl
      have hfz13_0 := blk_frozen BK485.out 0
      have hfz13_1 := blk_frozen BK485.out 1
      have hfz13_2 := blk_frozen BK485.out 2
      go_wp2_with (first | ((with_reducible refine gate_callee (f := 104) rfl ?_); refine goesL_ (some 14) rfl rfl Try.func104 (by kernel_rfl) rfl #[.int .i64 a1_0] rfl (by (try simp only [List.map_toArray, List.map_cons, List.map_nil]); first | done | rfl | (simp only [List.length_drop, List.length_take]; rfl)) ?_; (with_reducible refine (impl_signed.calls a1_0 true _ A10.out).mono ?_); rintro e w' ⟨rfl, ⟨nd, rfl⟩⟩; refine ⟨_, rfl, ?_⟩; have hcz14_0 : w7.cell? ⟨gb486, 0, none⟩ = some (.int .i64 a2_0) := (blk_cell BK486.out 0).trans rfl; have hcz14_1 : w7.cell? ⟨gb486, 1, none⟩ = some (.int .i64 a2_1) := (blk_cell BK486.out 1).trans rfl; have hcz14_2 : w7.cell? ⟨gb486, 2, none⟩ = some (.string a2_2) := (blk_cell BK486.out 2).trans rfl; have hfz14_0 := blk_frozen BK486.out 0; have hfz14_1 := blk_frozen BK486.out 1; have hfz14_2 := blk_frozen BK486.out 2))
      go_meet
      case rel => exact ⟨_, (decide (a2_1 < 0)), (by first | rfl | (simp; done) | (simp [*]; done)), H', ⟨by first | omega | exact Nat.le_refl _⟩, ⟨by (with_reducible repeat (first | refine blk_drewN ?_ _ | refine blk_drew ?_ | refine blk_alloc ?_ _)); exact BK485.out⟩, ⟨by (with_reducible repeat (first | refine blk_drewN ?_ _ | refine blk_drew ?_ | refine blk_alloc ?_ _)); exact BK486.out⟩, ⟨by repeat (first | (with_reducible first | exact HB.out | apply below_alloc | apply pw_below_drewN | apply below_drew1 | refine below_set ?_ GE485.out | refine below_set ?_ GE486.out) | exact HB.out)⟩⟩
    · replace c11 := Bool.eq_false_iff.mpr c11
      subst c11
      have H1 : (impl_shift.j0 k a0 t487 false a1_0 a1_1 a1_2 a2_0 a2_1 a2_2) = some r := by rw [if_neg (show ¬ (false = true) by decide)] at H; exact H
      clear H
      have H := H1
      clear H1
      have H' := Aside0.mk H
      clear H
      have hnb15 := NB485_486.out
      have hnc15 := NB486_485.out
      have hcz16_0 : w7.cell? ⟨gb485, 0, none⟩ = some (.int .i64 a1_0) := (blk_cell BK485.out 0).trans rfl
      have hcz16_1 : w7.cell? ⟨gb485, 1, none⟩ = some (.int .i64 a1_1) := (blk_cell BK485.out 1).trans rfl
      have hcz16_2 : w7.cell? ⟨gb485, 2, none⟩ = some (.string a1_2) := (blk_cell BK485.out 2).trans rfl
      have hfz16_0 := blk_frozen BK485.out 0
      have hfz16_1 := blk_frozen BK485.out 1
      have hfz16_2 := blk_frozen BK485.out 2
      go_wp2_with (first | ((with_reducible refine gate_callee (f := 104) rfl ?_); refine goesL_ (some 14) rfl rfl Try.func104 (by kernel_rfl) rfl #[.int .i64 a1_0] rfl (by (try simp only [List.map_toArray, List.map_cons, List.map_nil]); first | done | rfl | (simp only [List.length_drop, List.length_take]; rfl)) ?_; (with_reducible refine (impl_signed.calls a1_0 false _ A10.out).mono ?_); rintro e w' ⟨rfl, ⟨nd, rfl⟩⟩; refine ⟨_, rfl, ?_⟩))
      go_meet
      case rel => exact ⟨_, (false), (by first | rfl | (simp; done) | (simp [*]; done)), H', ⟨by first | omega | exact Nat.le_refl _⟩, ⟨by (with_reducible repeat (first | refine blk_drewN ?_ _ | refine blk_drew ?_ | refine blk_alloc ?_ _)); exact BK485.out⟩, ⟨by (with_reducible repeat (first | refine blk_drewN ?_ _ | refine blk_drew ?_ | refine blk_alloc ?_ _)); exact BK486.out⟩, ⟨by repeat (first | (with_reducible first | exact HB.out | apply below_alloc | apply pw_below_drewN | apply below_drew1 | refine below_set ?_ GE485.out | refine below_set ?_ GE486.out) | exact HB.out)⟩⟩
  case rest =>
    clear HC5
    try clear c1
    try clear p2
    try clear c8
    try clear c9
    try clear c10
    try clear c11
    try clear c12
    try clear c15
    try clear hcz13_0
    try clear hcz13_1
    try clear hcz13_2
    try clear hcz14_0
    try clear hcz14_1
    try clear hcz14_2
    try clear hcz16_0
    try clear hcz16_1
    try clear hcz16_2
    try clear hcz9_0
    try clear hcz9_1
    try clear hcz9_2
    try clear hfz13_0
    try clear hfz13_1
    try clear hfz13_2
    try clear hfz14_0
    try clear hfz14_1
    try clear hfz14_2
    try clear hfz16_0
    try clear hfz16_1
    try clear hfz16_2
    try clear hfz9_0
    try clear hfz9_1
    try clear hfz9_2
    obtain ⟨kq, x8_4, rfl, HA, HJ4, BK485, BK486, HB⟩ := hcut
    cases kq with
    | zero => exact absurd HA.out (by simp [impl_shift.j0])
    | succ kj4 =>
      have H := HA.out
      clear HA
      simp only [impl_shift.j0] at H
      have HC17 := Aside0.mk H
      clear H
      go_upto_region 3 with (fail)
      go_cut [27] (fun v27 wc => ∃ (kq : Nat) (x27_16 : Bool), v27 = .bool x27_16 ∧ Aside0 (impl_shift.j1 kq a0 x27_16 a1_0 a1_1 a1_2 a2_0 a2_1 a2_2 = some r) ∧ Aside0 (kq ≤ kj4) ∧ Aside0 (wc.heap[gb485]? = some (.cells #[.int .i64 a1_0, .int .i64 a1_1, .string a1_2] 34 (0, 0))) ∧ Aside0 (wc.heap[gb486]? = some (.cells #[.int .i64 a2_0, .int .i64 a2_1, .string a2_2] 34 (0, 0))) ∧ Aside0 (Below w.heap.size w wc))
      case first =>
        have H := HC17.out
        clear HC17
        by_cases c18 : x8_4 = true
        · subst c18
          have H1 : (impl_shift.j1 kj4 a0 true a1_0 a1_1 a1_2 a2_0 a2_1 a2_2) = some r := by rw [if_pos rfl] at H; exact H
          clear H
          have H := H1
          clear H1
          have H' := Aside0.mk H
          clear H
          go_wp2
          go_meet
          case rel => exact ⟨_, (true), (by first | rfl | (simp; done) | (simp [*]; done)), H', ⟨by have := HJ4.out; first | omega | exact Nat.le_refl _⟩, ⟨by (with_reducible repeat (first | refine blk_drewN ?_ _ | refine blk_drew ?_ | refine blk_alloc ?_ _)); exact BK485.out⟩, ⟨by (with_reducible repeat (first | refine blk_drewN ?_ _ | refine blk_drew ?_ | refine blk_alloc ?_ _)); exact BK486.out⟩, ⟨by repeat (first | (with_reducible first | exact HB.out | apply below_alloc | apply pw_below_drewN | apply below_drew1 | refine below_set ?_ GE485.out | refine below_set ?_ GE486.out) | exact HB.out)⟩⟩
        · replace c18 := Bool.eq_false_iff.mpr c18
          subst c18
          have H1 : (impl_shift.j1 kj4 a0 (decide ((IntKind.u64.wrap (a2_1)) ≥ t487)) a1_0 a1_1 a1_2 a2_0 a2_1 a2_2) = some r := by rw [if_neg (show ¬ (false = true) by decide)] at H; exact H
          clear H
          have H := H1
          clear H1
          have H' := Aside0.mk H
          clear H
          have hnb19 := NB486_485.out
          have hnc19 := NB485_486.out
          have hcz20_0 : wc.cell? ⟨gb486, 0, none⟩ = some (.int .i64 a2_0) := (blk_cell BK486.out 0).trans rfl
          have hcz20_1 : wc.cell? ⟨gb486, 1, none⟩ = some (.int .i64 a2_1) := (blk_cell BK486.out 1).trans rfl
          have hcz20_2 : wc.cell? ⟨gb486, 2, none⟩ = some (.string a2_2) := (blk_cell BK486.out 2).trans rfl
          have hfz20_0 := blk_frozen BK486.out 0
          have hfz20_1 := blk_frozen BK486.out 1
          have hfz20_2 := blk_frozen BK486.out 2
          go_wp2
          go_meet
          case rel => exact ⟨_, (decide ((IntKind.u64.wrap (a2_1)) ≥ t487)), (by first | rfl | (simp; done) | (simp [*]; done)), H', ⟨by have := HJ4.out; first | omega | exact Nat.le_refl _⟩, ⟨by (with_reducible repeat (first | refine blk_drewN ?_ _ | refine blk_drew ?_ | refine blk_alloc ?_ _)); exact BK485.out⟩, ⟨by (with_reducible repeat (first | refine blk_drewN ?_ _ | refine blk_drew ?_ | refine blk_alloc ?_ _)); exact BK486.out⟩, ⟨by repeat (first | (with_reducible first | exact HB.out | apply below_alloc | apply pw_below_drewN | apply below_drew1 | refine below_set ?_ GE485.out | refine below_set ?_ GE486.out) | exact HB.out)⟩⟩
      case rest =>
        clear HC17
        try clear c1
        try clear p2
        try clear c8
        try clear c9
        try clear c10
        try clear c11
        try clear c12
        try clear c15
        try clear c18
        try clear c19
        try clear hcz13_0
        try clear hcz13_1
        try clear hcz13_2
        try clear hcz14_0
        try clear hcz14_1
        try clear hcz14_2
        try clear hcz16_0
        try clear hcz16_1
        try clear hcz16_2
        try clear hcz20_0
        try clear hcz20_1
        try clear hcz20_2
        try clear hcz9_0
        try clear hcz9_1
        try clear hcz9_2
        try clear hfz13_0
        try clear hfz13_1
        try clear hfz13_2
        try clear hfz14_0
        try clear hfz14_1
        try clear hfz14_2
        try clear hfz16_0
        try clear hfz16_1
        try clear hfz16_2
        try clear hfz20_0
        try clear hfz20_1
        try clear hfz20_2
        try clear hfz9_0
        try clear hfz9_1
        try clear hfz9_2
        try clear p2
        obtain ⟨kq, x27_16, rfl, HA, HJ16, BK485, BK486, HB⟩ := hcut
        cases kq with
        | zero => exact absurd HA.out (by simp [impl_shift.j1])
        | succ kj16 =>
          have H := HA.out
          clear HA
          simp only [impl_shift.j1] at H
          by_cases c21 : x27_16 = true
          · subst c21
            have H1 : (if a0 = 18 then ((impl_signed.f a1_0).bind fun t489 => (if t489 = true then (if a1_1 < 0 then (some 18446744073709551615) else (some 0)) else (some 0))) else (some 0)) = some r := by rw [if_pos rfl] at H; exact H
            clear H
            have H := H1
            clear H1
            by_cases c22 : a0 = 18
            · rw [if_pos c22] at H
              have c22b0 : (a0 == 18) = true := beq_iff_eq.mpr c22
              have c22b1 : (a0 != 18) = false := bne_eq_false_iff_eq.mpr c22
              clear c22
              replace H := Option.bind_eq_some_iff.mp H
              obtain ⟨t489, A230, H⟩ := H
              replace H : (if t489 = true then (if a1_1 < 0 then (some 18446744073709551615) else (some 0)) else (some 0)) = some r := H
              have A23 := Aside0.mk A230
              clear A230
              by_cases c24 : t489 = true
              · subst c24
                have H1 : (if a1_1 < 0 then (some 18446744073709551615) else (some 0)) = some r := by rw [if_pos rfl] at H; exact H
                clear H
                have H := H1
                clear H1
                by_cases c25 : a1_1 < 0
                · rw [if_pos c25] at H
                  have c25b0 : decide (a1_1 < 0) = true := decide_eq_true c25
                  clear c25
                  obtain rfl := Option.some.inj H
                  simp only [Option.some.injEq, Prod.mk.injEq] at H
                  obtain ⟨rfl⟩ := H
                  have hnb26 := NB485_486.out
                  have hnc26 := NB486_485.out
                  have hcz27_0 : wc.cell? ⟨gb485, 0, none⟩ = some (.int .i64 a1_0) := (blk_cell BK485.out 0).trans rfl
                  have hcz27_1 : wc.cell? ⟨gb485, 1, none⟩ = some (.int .i64 a1_1) := (blk_cell BK485.out 1).trans rfl
                  have hcz27_2 : wc.cell? ⟨gb485, 2, none⟩ = some (.string a1_2) := (blk_cell BK485.out 2).trans rfl
                  have hfz27_0 := blk_frozen BK485.out 0
                  have hfz27_1 := blk_frozen BK485.out 1
                  have hfz27_2 := blk_frozen BK485.out 2
                  go_wp2_with (first | (go_at_call 104; (with_reducible refine (impl_signed.calls a1_0 true _ A23.out).mono ?_); rintro e w' ⟨rfl, ⟨nd, rfl⟩⟩))
                  go_ret
                  exact ⟨by first | rfl | (simp [errW_none, errW_some] <;> rfl) | (simp [*, errW_none, errW_some] <;> rfl), by repeat (first | (with_reducible first | exact HB.out | apply below_alloc | apply pw_below_drewN | apply below_drew1 | refine below_set ?_ GE485.out | refine below_set ?_ GE486.out) | exact HB.out)⟩
                · rw [if_neg c25] at H
                  have c25b0 : decide (a1_1 < 0) = false := decide_eq_false c25
                  clear c25
                  obtain rfl := Option.some.inj H
                  simp only [Option.some.injEq, Prod.mk.injEq] at H
                  obtain ⟨rfl⟩ := H
                  have hnb28 := NB485_486.out
                  have hnc28 := NB486_485.out
                  have hcz29_0 : wc.cell? ⟨gb485, 0, none⟩ = some (.int .i64 a1_0) := (blk_cell BK485.out 0).trans rfl
                  have hcz29_1 : wc.cell? ⟨gb485, 1, none⟩ = some (.int .i64 a1_1) := (blk_cell BK485.out 1).trans rfl
                  have hcz29_2 : wc.cell? ⟨gb485, 2, none⟩ = some (.string a1_2) := (blk_cell BK485.out 2).trans rfl
                  have hfz29_0 := blk_frozen BK485.out 0
                  have hfz29_1 := blk_frozen BK485.out 1
                  have hfz29_2 := blk_frozen BK485.out 2
                  go_wp2_with (first | (go_at_call 104; (with_reducible refine (impl_signed.calls a1_0 true _ A23.out).mono ?_); rintro e w' ⟨rfl, ⟨nd, rfl⟩⟩))
                  go_ret
                  exact ⟨by first | rfl | (simp [errW_none, errW_some] <;> rfl) | (simp [*, errW_none, errW_some] <;> rfl), by repeat (first | (with_reducible first | exact HB.out | apply below_alloc | apply pw_below_drewN | apply below_drew1 | refine below_set ?_ GE485.out | refine below_set ?_ GE486.out) | exact HB.out)⟩
              · replace c24 := Bool.eq_false_iff.mpr c24
                subst c24
                have H1 : (some 0) = some r := by rw [if_neg (show ¬ (false = true) by decide)] at H; exact H
                clear H
                have H := H1
                clear H1
                obtain rfl := Option.some.inj H
                simp only [Option.some.injEq, Prod.mk.injEq] at H
                obtain ⟨rfl⟩ := H
                have hnb30 := NB485_486.out
                have hnc30 := NB486_485.out
                have hcz31_0 : wc.cell? ⟨gb485, 0, none⟩ = some (.int .i64 a1_0) := (blk_cell BK485.out 0).trans rfl
                have hcz31_1 : wc.cell? ⟨gb485, 1, none⟩ = some (.int .i64 a1_1) := (blk_cell BK485.out 1).trans rfl
                have hcz31_2 : wc.cell? ⟨gb485, 2, none⟩ = some (.string a1_2) := (blk_cell BK485.out 2).trans rfl
                have hfz31_0 := blk_frozen BK485.out 0
                have hfz31_1 := blk_frozen BK485.out 1
                have hfz31_2 := blk_frozen BK485.out 2
                go_wp2_with (first | (go_at_call 104; (with_reducible refine (impl_signed.calls a1_0 false _ A23.out).mono ?_); rintro e w' ⟨rfl, ⟨nd, rfl⟩⟩))
                go_ret
                exact ⟨by first | rfl | (simp [errW_none, errW_some] <;> rfl) | (simp [*, errW_none, errW_some] <;> rfl), by repeat (first | (with_reducible first | exact HB.out | apply below_alloc | apply pw_below_drewN | apply below_drew1 | refine below_set ?_ GE485.out | refine below_set ?_ GE486.out) | exact HB.out)⟩
            · rw [if_neg c22] at H
              have c22b0 : (a0 == 18) = false := beq_eq_false_iff_ne.mpr c22
              have c22b1 : (a0 != 18) = true := bne_iff_ne.mpr c22
              obtain rfl := Option.some.inj H
              simp only [Option.some.injEq, Prod.mk.injEq] at H
              obtain ⟨rfl⟩ := H
              go_wp2
              go_ret
              exact ⟨by first | rfl | (simp [errW_none, errW_some] <;> rfl) | (simp [*, errW_none, errW_some] <;> rfl), by repeat (first | (with_reducible first | exact HB.out | apply below_alloc | apply pw_below_drewN | apply below_drew1 | refine below_set ?_ GE485.out | refine below_set ?_ GE486.out) | exact HB.out)⟩
          · replace c21 := Bool.eq_false_iff.mpr c21
            subst c21
            have H1 : (if a0 = 17 then (if 0 ≤ (IntKind.u64.wrap (a2_1)) then (some (shl .u64 (IntKind.u64.wrap (a1_1)) (IntKind.u64.wrap (a2_1)))) else (none)) else ((impl_signed.f a1_0).bind fun t490 => (if t490 = true then (if 0 ≤ (IntKind.u64.wrap (a2_1)) then (some (IntKind.u64.wrap (shr .i64 a1_1 (IntKind.u64.wrap (a2_1))))) else (none)) else (if 0 ≤ (IntKind.u64.wrap (a2_1)) then (some (shr .u64 (IntKind.u64.wrap (a1_1)) (IntKind.u64.wrap (a2_1)))) else (none))))) = some r := by rw [if_neg (show ¬ (false = true) by decide)] at H; exact H
            clear H
            have H := H1
            clear H1
            by_cases c32 : a0 = 17
            · rw [if_pos c32] at H
              have c32b0 : (a0 == 17) = true := beq_iff_eq.mpr c32
              have c32b1 : (a0 != 17) = false := bne_eq_false_iff_eq.mpr c32
              clear c32
              obtain ⟨ji33, hji33⟩ : ∃ j_ : Int, (IntKind.u64.wrap (a2_1)) = j_ := ⟨_, rfl⟩
              replace H : (if 0 ≤ (ji33) then (some (shl .u64 (IntKind.u64.wrap (a1_1)) (ji33))) else (none)) = some r := by first | (rw [hji33] at H; exact H) | (simp only [hji33] at H ⊢; exact H)
              by_cases c34 : 0 ≤ (ji33)
              · rw [if_pos c34] at H
                have c34b0 := eq_true c34
                have c34b1 : decide (0 ≤ (ji33)) = true := decide_eq_true c34
                clear c34
                obtain ⟨ji35, hji35⟩ : ∃ j_ : Int, (shl .u64 (IntKind.u64.wrap (a1_1)) (ji33)) = j_ := ⟨_, rfl⟩
                replace H : (some ji35) = some r := by first | (rw [hji35] at H; exact H) | (simp only [hji35] at H ⊢; exact H)
                have hji35nn : 0 ≤ ji35 := by rw [← hji35]; unfold shl IntKind.wrap; simp only [IntKind.bits, IntKind.signed]; simp; omega
                have hji35nm : ji35 ≤ 18446744073709551615 := by rw [← hji35]; unfold shl IntKind.wrap; simp only [IntKind.bits, IntKind.signed]; simp; omega
                have hji35_ : (IntKind.u64.wrap ((IntKind.u64.wrap (a1_1)) * 2 ^ min (ji33).toNat 64)) = ji35 := hji35
                have hji35z : (ji33) ≤ 64 → (IntKind.u64.wrap ((IntKind.u64.wrap (a1_1)) * 2 ^ (ji33).toNat)) = ji35 := shl_small hji35
                obtain rfl := Option.some.inj H
                simp only [Option.some.injEq, Prod.mk.injEq] at H
                obtain ⟨rfl⟩ := H
                have hnb36 := NB485_486.out
                have hnc36 := NB486_485.out
                have hcz37_0 : wc.cell? ⟨gb485, 0, none⟩ = some (.int .i64 a1_0) := (blk_cell BK485.out 0).trans rfl
                have hcz37_1 : wc.cell? ⟨gb485, 1, none⟩ = some (.int .i64 a1_1) := (blk_cell BK485.out 1).trans rfl
                have hcz37_2 : wc.cell? ⟨gb485, 2, none⟩ = some (.string a1_2) := (blk_cell BK485.out 2).trans rfl
                have hfz37_0 := blk_frozen BK485.out 0
                have hfz37_1 := blk_frozen BK485.out 1
                have hfz37_2 := blk_frozen BK485.out 2
                have hcz38_0 : wc.cell? ⟨gb486, 0, none⟩ = some (.int .i64 a2_0) := (blk_cell BK486.out 0).trans rfl
                have hcz38_1 : wc.cell? ⟨gb486, 1, none⟩ = some (.int .i64 a2_1) := (blk_cell BK486.out 1).trans rfl
                have hcz38_2 : wc.cell? ⟨gb486, 2, none⟩ = some (.string a2_2) := (blk_cell BK486.out 2).trans rfl
                have hfz38_0 := blk_frozen BK486.out 0
                have hfz38_1 := blk_frozen BK486.out 1
                have hfz38_2 := blk_frozen BK486.out 2
                go_wp2
                go_ret
                exact ⟨by first | rfl | (simp [errW_none, errW_some] <;> rfl) | (simp only [← hji33, ← hji35]; first | rfl | (simp [errW_none, errW_some] <;> rfl)) | (simp [*, errW_none, errW_some] <;> rfl), by repeat (first | (with_reducible first | exact HB.out | apply below_alloc | apply pw_below_drewN | apply below_drew1 | refine below_set ?_ GE485.out | refine below_set ?_ GE486.out) | exact HB.out)⟩
              · rw [if_neg c34] at H
                exact absurd H (by simp)
            · rw [if_neg c32] at H
              have c32b0 : (a0 == 17) = false := beq_eq_false_iff_ne.mpr c32
              have c32b1 : (a0 != 17) = true := bne_iff_ne.mpr c32
              replace H := Option.bind_eq_some_iff.mp H
              obtain ⟨t490, A390, H⟩ := H
              replace H : (if t490 = true then (if 0 ≤ (IntKind.u64.wrap (a2_1)) then (some (IntKind.u64.wrap (shr .i64 a1_1 (IntKind.u64.wrap (a2_1))))) else (none)) else (if 0 ≤ (IntKind.u64.wrap (a2_1)) then (some (shr .u64 (IntKind.u64.wrap (a1_1)) (IntKind.u64.wrap (a2_1)))) else (none))) = some r := H
              have A39 := Aside0.mk A390
              clear A390
              by_cases c40 : t490 = true
              · subst c40
                have H1 : (if 0 ≤ (IntKind.u64.wrap (a2_1)) then (some (IntKind.u64.wrap (shr .i64 a1_1 (IntKind.u64.wrap (a2_1))))) else (none)) = some r := by rw [if_pos rfl] at H; exact H
                clear H
                have H := H1
                clear H1
                obtain ⟨ji41, hji41⟩ : ∃ j_ : Int, (IntKind.u64.wrap (a2_1)) = j_ := ⟨_, rfl⟩
                replace H : (if 0 ≤ (ji41) then (some (IntKind.u64.wrap (shr .i64 a1_1 (ji41)))) else (none)) = some r := by first | (rw [hji41] at H; exact H) | (simp only [hji41] at H ⊢; exact H)
                (try rw [hji41] at A39)
                by_cases c42 : 0 ≤ (ji41)
                · rw [if_pos c42] at H
                  have c42b0 := eq_true c42
                  have c42b1 : decide (0 ≤ (ji41)) = true := decide_eq_true c42
                  clear c42
                  obtain ⟨ji43, hji43⟩ : ∃ j_ : Int, (shr .i64 a1_1 (ji41)) = j_ := ⟨_, rfl⟩
                  replace H : (some (IntKind.u64.wrap (ji43))) = some r := by first | (rw [hji43] at H; exact H) | (simp only [hji43] at H ⊢; exact H)
                  (try rw [hji43] at A39)
                  have hji43_ : (a1_1 / 2 ^ min (ji41).toNat 64) = ji43 := hji43
                  have hji43z : (ji41) ≤ 64 → (a1_1 / 2 ^ (ji41).toNat) = ji43 := shr_small hji43
                  obtain rfl := Option.some.inj H
                  simp only [Option.some.injEq, Prod.mk.injEq] at H
                  obtain ⟨rfl⟩ := H
                  have hnb44 := NB485_486.out
                  have hnc44 := NB486_485.out
                  have hcz45_0 : wc.cell? ⟨gb485, 0, none⟩ = some (.int .i64 a1_0) := (blk_cell BK485.out 0).trans rfl
                  have hcz45_1 : wc.cell? ⟨gb485, 1, none⟩ = some (.int .i64 a1_1) := (blk_cell BK485.out 1).trans rfl
                  have hcz45_2 : wc.cell? ⟨gb485, 2, none⟩ = some (.string a1_2) := (blk_cell BK485.out 2).trans rfl
                  have hfz45_0 := blk_frozen BK485.out 0
                  have hfz45_1 := blk_frozen BK485.out 1
                  have hfz45_2 := blk_frozen BK485.out 2
                  go_wp2_with (first | ((with_reducible refine gate_callee (f := 104) rfl ?_); refine goesL_ (some 51) rfl rfl Try.func104 (by kernel_rfl) rfl #[.int .i64 a1_0] rfl (by (try simp only [List.map_toArray, List.map_cons, List.map_nil]); first | done | rfl | (simp only [List.length_drop, List.length_take]; rfl)) ?_; (with_reducible refine (impl_signed.calls a1_0 true _ A39.out).mono ?_); rintro e w' ⟨rfl, ⟨nd, rfl⟩⟩; refine ⟨_, rfl, ?_⟩; have hcz46_0 : wc.cell? ⟨gb486, 0, none⟩ = some (.int .i64 a2_0) := (blk_cell BK486.out 0).trans rfl; have hcz46_1 : wc.cell? ⟨gb486, 1, none⟩ = some (.int .i64 a2_1) := (blk_cell BK486.out 1).trans rfl; have hcz46_2 : wc.cell? ⟨gb486, 2, none⟩ = some (.string a2_2) := (blk_cell BK486.out 2).trans rfl; have hfz46_0 := blk_frozen BK486.out 0; have hfz46_1 := blk_frozen BK486.out 1; have hfz46_2 := blk_frozen BK486.out 2))
                  go_ret
                  exact ⟨by first | rfl | (simp [errW_none, errW_some] <;> rfl) | (simp only [← hji41, ← hji43]; first | rfl | (simp [errW_none, errW_some] <;> rfl)) | (simp [*, errW_none, errW_some] <;> rfl), by repeat (first | (with_reducible first | exact HB.out | apply below_alloc | apply pw_below_drewN | apply below_drew1 | refine below_set ?_ GE485.out | refine below_set ?_ GE486.out) | exact HB.out)⟩
                · rw [if_neg c42] at H
                  exact absurd H (by simp)
              · replace c40 := Bool.eq_false_iff.mpr c40
                subst c40
                have H1 : (if 0 ≤ (IntKind.u64.wrap (a2_1)) then (some (shr .u64 (IntKind.u64.wrap (a1_1)) (IntKind.u64.wrap (a2_1)))) else (none)) = some r := by rw [if_neg (show ¬ (false = true) by decide)] at H; exact H
                clear H
                have H := H1
                clear H1
                obtain ⟨ji47, hji47⟩ : ∃ j_ : Int, (IntKind.u64.wrap (a2_1)) = j_ := ⟨_, rfl⟩
                replace H : (if 0 ≤ (ji47) then (some (shr .u64 (IntKind.u64.wrap (a1_1)) (ji47))) else (none)) = some r := by first | (rw [hji47] at H; exact H) | (simp only [hji47] at H ⊢; exact H)
                (try rw [hji47] at A39)
                by_cases c48 : 0 ≤ (ji47)
                · rw [if_pos c48] at H
                  have c48b0 := eq_true c48
                  have c48b1 : decide (0 ≤ (ji47)) = true := decide_eq_true c48
                  clear c48
                  obtain ⟨ji49, hji49⟩ : ∃ j_ : Int, (shr .u64 (IntKind.u64.wrap (a1_1)) (ji47)) = j_ := ⟨_, rfl⟩
                  replace H : (some ji49) = some r := by first | (rw [hji49] at H; exact H) | (simp only [hji49] at H ⊢; exact H)
                  (try rw [hji49] at A39)
                  have hji49_ : ((IntKind.u64.wrap (a1_1)) / 2 ^ min (ji47).toNat 64) = ji49 := hji49
                  have hji49z : (ji47) ≤ 64 → ((IntKind.u64.wrap (a1_1)) / 2 ^ (ji47).toNat) = ji49 := shr_small hji49
                  obtain rfl := Option.some.inj H
                  simp only [Option.some.injEq, Prod.mk.injEq] at H
                  obtain ⟨rfl⟩ := H
                  have hnb50 := NB485_486.out
                  have hnc50 := NB486_485.out
                  have hcz51_0 : wc.cell? ⟨gb485, 0, none⟩ = some (.int .i64 a1_0) := (blk_cell BK485.out 0).trans rfl
                  have hcz51_1 : wc.cell? ⟨gb485, 1, none⟩ = some (.int .i64 a1_1) := (blk_cell BK485.out 1).trans rfl
                  have hcz51_2 : wc.cell? ⟨gb485, 2, none⟩ = some (.string a1_2) := (blk_cell BK485.out 2).trans rfl
                  have hfz51_0 := blk_frozen BK485.out 0
                  have hfz51_1 := blk_frozen BK485.out 1
                  have hfz51_2 := blk_frozen BK485.out 2
                  go_wp2_with (first | ((with_reducible refine gate_callee (f := 104) rfl ?_); refine goesL_ (some 51) rfl rfl Try.func104 (by kernel_rfl) rfl #[.int .i64 a1_0] rfl (by (try simp only [List.map_toArray, List.map_cons, List.map_nil]); first | done | rfl | (simp only [List.length_drop, List.length_take]; rfl)) ?_; (with_reducible refine (impl_signed.calls a1_0 false _ A39.out).mono ?_); rintro e w' ⟨rfl, ⟨nd, rfl⟩⟩; refine ⟨_, rfl, ?_⟩; have hcz52_0 : wc.cell? ⟨gb486, 0, none⟩ = some (.int .i64 a2_0) := (blk_cell BK486.out 0).trans rfl; have hcz52_1 : wc.cell? ⟨gb486, 1, none⟩ = some (.int .i64 a2_1) := (blk_cell BK486.out 1).trans rfl; have hcz52_2 : wc.cell? ⟨gb486, 2, none⟩ = some (.string a2_2) := (blk_cell BK486.out 2).trans rfl; have hfz52_0 := blk_frozen BK486.out 0; have hfz52_1 := blk_frozen BK486.out 1; have hfz52_2 := blk_frozen BK486.out 2))
                  go_ret
                  exact ⟨by first | rfl | (simp [errW_none, errW_some] <;> rfl) | (simp only [← hji47, ← hji49]; first | rfl | (simp [errW_none, errW_some] <;> rfl)) | (simp [*, errW_none, errW_some] <;> rfl), by repeat (first | (with_reducible first | exact HB.out | apply below_alloc | apply pw_below_drewN | apply below_drew1 | refine below_set ?_ GE485.out | refine below_set ?_ GE486.out) | exact HB.out)⟩
                · rw [if_neg c48] at H
                  exact absurd H (by simp)

end Go.Proofs.Ytajlomhnednghaa.R
