/- Texts of this session, put together (wip/tools/pack.py): Bx24, Bx25, Bx26 ... Conditions: none. -/
import Derived.Test.YtajlomhnednghaaBim1
namespace Go.Proofs.Ytajlomhnednghaa.B
open Go.RowKit Go.Proofs.YtajlomhnednghaaW.PrintWords Go.Proofs.YtajlomhnednghaaW.PrintLast Go.Proofs.YtajlomhnednghaaW.PrintMore
attribute [local go_sem] max2_int min2_int max_two min_two max_three min_three max_four min_four   -- for this text's walks alone
set_option linter.unusedVariables false
set_option linter.unusedSimpArgs false

/-! ### impl_truth: function 72 -/
def impl_truth.f (a0 : Bool) : Option (Int × Int × ByteArray) := if a0 = true then (some (1, 1, (⟨#[]⟩ : ByteArray))) else (some (1, 0, (⟨#[]⟩ : ByteArray)))
set_option maxHeartbeats 8000000 in
set_option maxRecDepth 100000 in
theorem impl_truth.calls (a0 : Bool) (r1 : Int) (r2 : Int) (r3 : ByteArray) (w : World) (h : impl_truth.f a0 = some (r1, r2, r3)) :
    Calls Try.prog 72 #[.bool a0] w fun e w' => e = .returned (.agg #[.int .i64 r1, .int .i64 r2, .string r3]) ∧ Below w.heap.size w w' := by
  have hu34 := Try.underlying34
  have HB := mk0 (Below.refl w.heap.size w)
  have H : (if a0 = true then (some (1, 1, (⟨#[]⟩ : ByteArray))) else (some (1, 0, (⟨#[]⟩ : ByteArray)))) = some (r1, r2, r3) := h
  clear h
  by_cases c2 : a0 = true
  · subst c2
    have H1 : (some (1, 1, (⟨#[]⟩ : ByteArray))) = some (r1, r2, r3) := by rw [if_pos rfl] at H; exact H
    clear H
    have H := H1
    clear H1
    simp only [Option.some.injEq, Prod.mk.injEq] at H
    obtain ⟨rfl, rfl, rfl⟩ := H
    go_enter Try.func72, Try.ntmps72
    go_wp2_with (first | ((with_reducible refine gate_dst (N := 2) rfl ?_); refine box_event ?hg (N := 2) ?hd (cs := #[.int .i64 0, .int .i64 0, .string (⟨#[]⟩ : ByteArray)]) (t := 34) ?hr ?_; (case hd => rfl); (case hg => rfl); (case hr => first | (go_simp; done) | (go_simp; rfl)); intro gb281 hg w3 hbox hb; have n0_ := mk0 (below_step (by repeat (first | (with_reducible first | exact HB.out | apply wA | apply wN | apply wD) | exact HB.out)) hb); have n1_ := mk0 (hbox); have n2_ := mk0 ((by rw [hg]; exact (below_size (by repeat (first | (with_reducible first | exact HB.out | apply wA | apply wN | apply wD) | exact HB.out))) : w.heap.size ≤ gb281)); have n3_ := mk0 ((by rw [hg]; exact (below_size (by repeat (first | (with_reducible first | exact HB.out | apply wA | apply wN | apply wD) | exact HB.out))) : w.heap.size ≤ gb281)); clear HB; have HB := n0_; have BK281 := n1_; have GW281 := n2_; have GE281 := n3_; clear n0_ n1_ n2_ n3_; clear hb hbox hg; have hcz4_0 : w3.cell? ⟨gb281, 0, none⟩ = some (.int .i64 0) := (bC BK281.out 0).trans rfl; have hcz4_1 : w3.cell? ⟨gb281, 1, none⟩ = some (.int .i64 0) := (bC BK281.out 1).trans rfl; have hcz4_2 : w3.cell? ⟨gb281, 2, none⟩ = some (.string (⟨#[]⟩ : ByteArray)) := (bC BK281.out 2).trans rfl; have hfz4_0 := bF BK281.out 0; have hfz4_1 := bF BK281.out 1; have hfz4_2 := bF BK281.out 2))
    refine bodyPost_ret (results_cell_row rfl _ _ gb281 34 #[.int .i64 1, .int .i64 1, .string (⟨#[]⟩ : ByteArray)] (0, 0) _ rfl (by (with_reducible repeat (first | apply bN | apply bD | apply bA)); refine blk_put (cs := #[.int .i64 1, .int .i64 1, .string (⟨#[]⟩ : ByteArray)]) ?_ 2 _ rfl; (with_reducible repeat (first | apply bN | apply bD | apply bA)); refine blk_put (cs := #[.int .i64 1, .int .i64 0, .string (⟨#[]⟩ : ByteArray)]) ?_ 1 _ rfl; (with_reducible repeat (first | apply bN | apply bD | apply bA)); refine blk_put (cs := #[.int .i64 0, .int .i64 0, .string (⟨#[]⟩ : ByteArray)]) ?_ 0 _ rfl; (with_reducible repeat (first | apply bN | apply bD | apply bA)); exact BK281.out) Try.underlying34 rfl (by kernel_rfl)) rfl ?_
    exact ⟨by first | rfl | (simp [errW_none, errW_some] <;> rfl) | (simp [*, errW_none, errW_some] <;> rfl), by repeat (first | (with_reducible first | exact HB.out | apply wA | apply wN | apply wD | refine wS ?_ GE281.out) | exact HB.out)⟩
  replace c2 := Bool.eq_false_iff.mpr c2
  subst c2
  have H1 : (some (1, 0, (⟨#[]⟩ : ByteArray))) = some (r1, r2, r3) := by rw [if_neg (show ¬ (false = true) by decide)] at H; exact H
  clear H
  have H := H1
  clear H1
  simp only [Option.some.injEq, Prod.mk.injEq] at H
  obtain ⟨rfl, rfl, rfl⟩ := H
  go_enter Try.func72, Try.ntmps72
  go_wp2_with (first | ((with_reducible refine gate_dst (N := 2) rfl ?_); refine box_event ?hg (N := 2) ?hd (cs := #[.int .i64 0, .int .i64 0, .string (⟨#[]⟩ : ByteArray)]) (t := 34) ?hr ?_; (case hd => rfl); (case hg => rfl); (case hr => first | (go_simp; done) | (go_simp; rfl)); intro gb281 hg w5 hbox hb; have n0_ := mk0 (below_step (by repeat (first | (with_reducible first | exact HB.out | apply wA | apply wN | apply wD) | exact HB.out)) hb); have n1_ := mk0 (hbox); have n2_ := mk0 ((by rw [hg]; exact (below_size (by repeat (first | (with_reducible first | exact HB.out | apply wA | apply wN | apply wD) | exact HB.out))) : w.heap.size ≤ gb281)); have n3_ := mk0 ((by rw [hg]; exact (below_size (by repeat (first | (with_reducible first | exact HB.out | apply wA | apply wN | apply wD) | exact HB.out))) : w.heap.size ≤ gb281)); clear HB; have HB := n0_; have BK281 := n1_; have GW281 := n2_; have GE281 := n3_; clear n0_ n1_ n2_ n3_; clear hb hbox hg; have hcz6_0 : w5.cell? ⟨gb281, 0, none⟩ = some (.int .i64 0) := (bC BK281.out 0).trans rfl; have hcz6_1 : w5.cell? ⟨gb281, 1, none⟩ = some (.int .i64 0) := (bC BK281.out 1).trans rfl; have hcz6_2 : w5.cell? ⟨gb281, 2, none⟩ = some (.string (⟨#[]⟩ : ByteArray)) := (bC BK281.out 2).trans rfl; have hfz6_0 := bF BK281.out 0; have hfz6_1 := bF BK281.out 1; have hfz6_2 := bF BK281.out 2))
  refine bodyPost_ret (results_cell_row rfl _ _ gb281 34 #[.int .i64 1, .int .i64 0, .string (⟨#[]⟩ : ByteArray)] (0, 0) _ rfl (by (with_reducible repeat (first | apply bN | apply bD | apply bA)); refine blk_put (cs := #[.int .i64 1, .int .i64 0, .string (⟨#[]⟩ : ByteArray)]) ?_ 2 _ rfl; (with_reducible repeat (first | apply bN | apply bD | apply bA)); refine blk_put (cs := #[.int .i64 1, .int .i64 0, .string (⟨#[]⟩ : ByteArray)]) ?_ 1 _ rfl; (with_reducible repeat (first | apply bN | apply bD | apply bA)); refine blk_put (cs := #[.int .i64 0, .int .i64 0, .string (⟨#[]⟩ : ByteArray)]) ?_ 0 _ rfl; (with_reducible repeat (first | apply bN | apply bD | apply bA)); exact BK281.out) Try.underlying34 rfl (by kernel_rfl)) rfl ?_
  exact ⟨by first | rfl | (simp [errW_none, errW_some] <;> rfl) | (simp [*, errW_none, errW_some] <;> rfl), by repeat (first | (with_reducible first | exact HB.out | apply wA | apply wN | apply wD | refine wS ?_ GE281.out) | exact HB.out)⟩

end Go.Proofs.Ytajlomhnednghaa.B
namespace Go.Proofs.Ytajlomhnednghaa.B
open Go.RowKit Go.Proofs.YtajlomhnednghaaW.PrintWords Go.Proofs.YtajlomhnednghaaW.PrintLast Go.Proofs.YtajlomhnednghaaW.PrintMore
attribute [local go_sem] max2_int min2_int max_two min_two max_three min_three max_four min_four   -- for this text's walks alone
set_option linter.unusedVariables false
set_option linter.unusedSimpArgs false

/-! ### impl_binType: function 92 -/
mutual
def impl_binType.j0 : Nat → Int → Int → Bool → Option (Int)
  | 0, _, _, _ => none
  | k + 1, x0, x1, x13 => if x13 = true then (some 0) else (if x0 = 1 then (impl_binType.j1 k x0 x1 true) else (impl_binType.j1 k x0 x1 (x0 == 2)))
def impl_binType.j1 : Nat → Int → Int → Bool → Option (Int)
  | 0, _, _, _ => none
  | k + 1, x0, x1, x14 => if x14 = true then (if x1 = 1 then (some 1) else (some 0)) else (if x0 = 3 then (impl_binType.j2 k x0 x1 true) else (impl_binType.j2 k x0 x1 (x0 == 4)))
def impl_binType.j2 : Nat → Int → Int → Bool → Option (Int)
  | 0, _, _, _ => none
  | k + 1, x0, x1, x23 => if x23 = true then (some 1) else (if x0 ≥ 5 then (impl_binType.j3 k x0 x1 (decide (x0 ≤ 8))) else (impl_binType.j3 k x0 x1 false))
def impl_binType.j3 : Nat → Int → Int → Bool → Option (Int)
  | 0, _, _, _ => none
  | k + 1, x0, x1, x30 => if x30 = true then ((impl_integer.f x1).bind fun t282 => (if t282 = true then (some 1) else (if x1 = 2 then (some 1) else (some 0)))) else (if x0 = 9 then ((impl_integer.f x1).bind fun t283 => (if t283 = true then (some x1) else (if x1 = 2 then (some x1) else (some 0)))) else (if x0 > 9 then (impl_binType.j4 k x1 (decide (x0 ≤ 18))) else (impl_binType.j4 k x1 false)))
def impl_binType.j4 : Nat → Int → Bool → Option (Int)
  | 0, _, _ => none
  | k + 1, x1, x53 => if x53 = true then ((impl_integer.f x1).bind fun t284 => (if t284 = true then (some x1) else (some 0))) else (some 0)
end
def impl_binType.f (k : Nat) (a0 : Int) (a1 : Int) (a2 : Int) : Option (Int) := if a1 = a2 then (impl_binType.j0 k a0 a1 (a1 == 0)) else (impl_binType.j0 k a0 a1 true)
theorem impl_binType.mono_l : ∀ k, (∀ y0 y1 y2, LeO (impl_binType.j0 k y0 y1 y2) (impl_binType.j0 (k + 1) y0 y1 y2)) ∧ (∀ y0 y1 y2, LeO (impl_binType.j1 k y0 y1 y2) (impl_binType.j1 (k + 1) y0 y1 y2)) ∧ (∀ y0 y1 y2, LeO (impl_binType.j2 k y0 y1 y2) (impl_binType.j2 (k + 1) y0 y1 y2)) ∧ (∀ y0 y1 y2, LeO (impl_binType.j3 k y0 y1 y2) (impl_binType.j3 (k + 1) y0 y1 y2)) ∧ (∀ y0 y1, LeO (impl_binType.j4 k y0 y1) (impl_binType.j4 (k + 1) y0 y1))
  | 0 => ⟨fun _ _ _ r h => by simp [impl_binType.j0] at h, fun _ _ _ r h => by simp [impl_binType.j1] at h, fun _ _ _ r h => by simp [impl_binType.j2] at h, fun _ _ _ r h => by simp [impl_binType.j3] at h, fun _ _ r h => by simp [impl_binType.j4] at h⟩
  | k + 1 => by
    obtain ⟨ih0, ih1, ih2, ih3, ih4⟩ := impl_binType.mono_l k
    refine ⟨?_, ?_, ?_, ?_, ?_⟩
    · intro y0 y1 y2
      unfold impl_binType.j0
      repeat' first
      | (with_reducible exact ih0 _ _ _)
      | (with_reducible exact ih1 _ _ _)
      | (with_reducible exact ih2 _ _ _)
      | (with_reducible exact ih3 _ _ _)
      | (with_reducible exact ih4 _ _)
      | (with_reducible exact LeO.refl _)
      | (with_reducible exact LeO.none _)
      | (with_reducible refine LeO.ite ?_ ?_)
      | (with_reducible refine LeO.bind ?_ (fun _ => ?_))
      | exact ih0 _ _ _
      | exact ih1 _ _ _
      | exact ih2 _ _ _
      | exact ih3 _ _ _
      | exact ih4 _ _
      | exact LeO.none _
      | refine LeO.ite ?_ ?_
      | refine LeO.bind ?_ (fun _ => ?_)
    · intro y0 y1 y2
      unfold impl_binType.j1
      repeat' first
      | (with_reducible exact ih0 _ _ _)
      | (with_reducible exact ih1 _ _ _)
      | (with_reducible exact ih2 _ _ _)
      | (with_reducible exact ih3 _ _ _)
      | (with_reducible exact ih4 _ _)
      | (with_reducible exact LeO.refl _)
      | (with_reducible exact LeO.none _)
      | (with_reducible refine LeO.ite ?_ ?_)
      | (with_reducible refine LeO.bind ?_ (fun _ => ?_))
      | exact ih0 _ _ _
      | exact ih1 _ _ _
      | exact ih2 _ _ _
      | exact ih3 _ _ _
      | exact ih4 _ _
      | exact LeO.none _
      | refine LeO.ite ?_ ?_
      | refine LeO.bind ?_ (fun _ => ?_)
    · intro y0 y1 y2
      unfold impl_binType.j2
      repeat' first
      | (with_reducible exact ih0 _ _ _)
      | (with_reducible exact ih1 _ _ _)
      | (with_reducible exact ih2 _ _ _)
      | (with_reducible exact ih3 _ _ _)
      | (with_reducible exact ih4 _ _)
      | (with_reducible exact LeO.refl _)
      | (with_reducible exact LeO.none _)
      | (with_reducible refine LeO.ite ?_ ?_)
      | (with_reducible refine LeO.bind ?_ (fun _ => ?_))
      | exact ih0 _ _ _
      | exact ih1 _ _ _
      | exact ih2 _ _ _
      | exact ih3 _ _ _
      | exact ih4 _ _
      | exact LeO.none _
      | refine LeO.ite ?_ ?_
      | refine LeO.bind ?_ (fun _ => ?_)
    · intro y0 y1 y2
      unfold impl_binType.j3
      repeat' first
      | (with_reducible exact ih0 _ _ _)
      | (with_reducible exact ih1 _ _ _)
      | (with_reducible exact ih2 _ _ _)
      | (with_reducible exact ih3 _ _ _)
      | (with_reducible exact ih4 _ _)
      | (with_reducible exact LeO.refl _)
      | (with_reducible exact LeO.none _)
      | (with_reducible refine LeO.ite ?_ ?_)
      | (with_reducible refine LeO.bind ?_ (fun _ => ?_))
      | exact ih0 _ _ _
      | exact ih1 _ _ _
      | exact ih2 _ _ _
      | exact ih3 _ _ _
      | exact ih4 _ _
      | exact LeO.none _
      | refine LeO.ite ?_ ?_
      | refine LeO.bind ?_ (fun _ => ?_)
    intro y0 y1
    unfold impl_binType.j4
    repeat' first
    | (with_reducible exact ih0 _ _ _)
    | (with_reducible exact ih1 _ _ _)
    | (with_reducible exact ih2 _ _ _)
    | (with_reducible exact ih3 _ _ _)
    | (with_reducible exact ih4 _ _)
    | (with_reducible exact LeO.refl _)
    | (with_reducible exact LeO.none _)
    | (with_reducible refine LeO.ite ?_ ?_)
    | (with_reducible refine LeO.bind ?_ (fun _ => ?_))
    | exact ih0 _ _ _
    | exact ih1 _ _ _
    | exact ih2 _ _ _
    | exact ih3 _ _ _
    | exact ih4 _ _
    | exact LeO.none _
    | refine LeO.ite ?_ ?_
    | refine LeO.bind ?_ (fun _ => ?_)
theorem impl_binType.mono : ∀ a0 a1 a2 k, LeO (impl_binType.f k a0 a1 a2) (impl_binType.f (k + 1) a0 a1 a2) := by
  intro a0 a1 a2 k
  obtain ⟨ih0, ih1, ih2, ih3, ih4⟩ := impl_binType.mono_l k
  unfold impl_binType.f
  repeat' first
      | (with_reducible exact ih0 _ _ _)
      | (with_reducible exact ih1 _ _ _)
      | (with_reducible exact ih2 _ _ _)
      | (with_reducible exact ih3 _ _ _)
      | (with_reducible exact ih4 _ _)
      | (with_reducible exact LeO.refl _)
      | (with_reducible exact LeO.none _)
      | (with_reducible refine LeO.ite ?_ ?_)
      | (with_reducible refine LeO.bind ?_ (fun _ => ?_))
      | exact ih0 _ _ _
      | exact ih1 _ _ _
      | exact ih2 _ _ _
      | exact ih3 _ _ _
      | exact ih4 _ _
      | exact LeO.none _
      | refine LeO.ite ?_ ?_
      | refine LeO.bind ?_ (fun _ => ?_)
set_option maxHeartbeats 8000000 in
set_option maxRecDepth 100000 in
theorem impl_binType.calls (k : Nat) (a0 : Int) (a1 : Int) (a2 : Int) (r : Int) (w : World) (h : impl_binType.f k a0 a1 a2 = some r) :
    Calls Try.prog 92 #[.int .i64 a0, .int .i64 a1, .int .i64 a2] w fun e w' => e = .returned (.int .i64 r) ∧ Drawn0 w w' := by
  have H : (if a1 = a2 then (impl_binType.j0 k a0 a1 (a1 == 0)) else (impl_binType.j0 k a0 a1 true)) = some r := h
  clear h
  have HC4 := mk0 H
  clear H
  go_enter Try.func92, Try.ntmps92
  go_upto_region 1 with (fail)
  go_cut [13] (fun v13 wc => ∃ (kq : Nat) (x13_3 : Bool), v13 = .bool x13_3 ∧ Aside0 (impl_binType.j0 kq a0 a1 x13_3 = some r) ∧ Aside0 (kq ≤ k) ∧ Drawn0 w wc)
  case first =>
    have H := HC4.out
    clear HC4
    by_cases c5 : a1 = a2
    · rw [if_pos c5] at H
      have c5b0 : (a1 == a2) = true := beq_iff_eq.mpr c5
      have c5b1 : (a1 != a2) = false := bne_eq_false_iff_eq.mpr c5
      clear c5
      (first | rw [c5b0] | (simp only [i64_w, i32_w]; rw [c5b0]) | rw [c5b4] | rw [c5b3] | skip)
      have H' := mk0 H
      clear H
      go_wp2
      go_meet
      case rel => exact ⟨_, ((a1 == 0)), (by first | rfl | (simp; done) | (simp [*]; done)), H', ⟨by first | omega | exact Nat.le_refl _⟩, by repeat (first | exact Drawn0.refl _ | apply Drawn0.step)⟩
    rw [if_neg c5] at H
    have c5b0 : (a1 == a2) = false := beq_eq_false_iff_ne.mpr c5
    have c5b1 : (a1 != a2) = true := bne_iff_ne.mpr c5
    (first | rw [c5b0] | (simp only [i64_w, i32_w]; rw [c5b0]) | rw [c5b4] | rw [c5b3] | skip)
    have H' := mk0 H
    clear H
    go_wp2
    go_meet
    case rel => exact ⟨_, (true), (by first | rfl | (simp; done) | (simp [*]; done)), H', ⟨by first | omega | exact Nat.le_refl _⟩, by repeat (first | exact Drawn0.refl _ | apply Drawn0.step)⟩
  clear HC4
  try clear p2
  try clear c5
  try clear c5b0
  try clear c5b1
  obtain ⟨kq, x13_3, rfl, HA, HJ3, ⟨mc3, rfl⟩⟩ := hcut
  cases kq with
  | zero => exact absurd HA.out (by simp [impl_binType.j0])
  | succ kj3 =>
  have H := HA.out
  clear HA
  simp only [impl_binType.j0] at H
  by_cases c6 : x13_3 = true
  · subst c6
    have H1 : (some 0) = some r := by rw [if_pos rfl] at H; exact H
    clear H
    have H := H1
    clear H1
    obtain rfl := Option.some.inj H
    go_wp2
    go_ret
    exact ⟨by first | rfl | (simp; done) | (simp [*]; done), by repeat (first | exact Drawn0.refl _ | apply Drawn0.step)⟩
  replace c6 := Bool.eq_false_iff.mpr c6
  subst c6
  have H1 : (if a0 = 1 then (impl_binType.j1 kj3 a0 a1 true) else (impl_binType.j1 kj3 a0 a1 (a0 == 2))) = some r := by rw [if_neg (show ¬ (false = true) by decide)] at H; exact H
  clear H
  have H := H1
  clear H1
  have HC7 := mk0 H
  clear H
  go_upto_region 3 with (fail)
  go_cut [14] (fun v14 wc => ∃ (kq : Nat) (x14_6 : Bool), v14 = .bool x14_6 ∧ Aside0 (impl_binType.j1 kq a0 a1 x14_6 = some r) ∧ Aside0 (kq ≤ kj3) ∧ Drawn0 w wc)
  case first =>
    have H := HC7.out
    clear HC7
    by_cases c8 : a0 = 1
    · rw [if_pos c8] at H
      have c8b0 : (a0 == 1) = true := beq_iff_eq.mpr c8
      have c8b1 : (a0 != 1) = false := bne_eq_false_iff_eq.mpr c8
      clear c8
      (first | rw [c8b0] | (simp only [i64_w, i32_w]; rw [c8b0]) | rw [c8b4] | rw [c8b3] | skip)
      have H' := mk0 H
      clear H
      go_wp2
      go_meet
      case rel => exact ⟨_, (true), (by first | rfl | (simp; done) | (simp [*]; done)), H', ⟨by have := HJ3.out; first | omega | exact Nat.le_refl _⟩, by repeat (first | exact Drawn0.refl _ | apply Drawn0.step)⟩
    rw [if_neg c8] at H
    have c8b0 : (a0 == 1) = false := beq_eq_false_iff_ne.mpr c8
    have c8b1 : (a0 != 1) = true := bne_iff_ne.mpr c8
    (first | rw [c8b0] | (simp only [i64_w, i32_w]; rw [c8b0]) | rw [c8b4] | rw [c8b3] | skip)
    have H' := mk0 H
    clear H
    go_wp2
    go_meet
    case rel => exact ⟨_, ((a0 == 2)), (by first | rfl | (simp; done) | (simp [*]; done)), H', ⟨by have := HJ3.out; first | omega | exact Nat.le_refl _⟩, by repeat (first | exact Drawn0.refl _ | apply Drawn0.step)⟩
  clear HC7
  try clear p2
  try clear c3
  try clear c5
  try clear c5b0
  try clear c5b1
  try clear c6
  try clear c8
  try clear c8b0
  try clear c8b1
  try clear p2
  obtain ⟨kq, x14_6, rfl, HA, HJ6, ⟨mc6, rfl⟩⟩ := hcut
  cases kq with
  | zero => exact absurd HA.out (by simp [impl_binType.j1])
  | succ kj6 =>
  have H := HA.out
  clear HA
  simp only [impl_binType.j1] at H
  by_cases c9 : x14_6 = true
  · subst c9
    have H1 : (if a1 = 1 then (some 1) else (some 0)) = some r := by rw [if_pos rfl] at H; exact H
    clear H
    have H := H1
    clear H1
    by_cases c10 : a1 = 1
    · rw [if_pos c10] at H
      have c10b0 : (a1 == 1) = true := beq_iff_eq.mpr c10
      have c10b1 : (a1 != 1) = false := bne_eq_false_iff_eq.mpr c10
      clear c10
      obtain rfl := Option.some.inj H
      go_wp2
      go_ret
      exact ⟨by first | rfl | (simp; done) | (simp [*]; done), by repeat (first | exact Drawn0.refl _ | apply Drawn0.step)⟩
    rw [if_neg c10] at H
    have c10b0 : (a1 == 1) = false := beq_eq_false_iff_ne.mpr c10
    have c10b1 : (a1 != 1) = true := bne_iff_ne.mpr c10
    obtain rfl := Option.some.inj H
    go_wp2
    go_ret
    exact ⟨by first | rfl | (simp; done) | (simp [*]; done), by repeat (first | exact Drawn0.refl _ | apply Drawn0.step)⟩
  replace c9 := Bool.eq_false_iff.mpr c9
  subst c9
  have H1 : (if a0 = 3 then (impl_binType.j2 kj6 a0 a1 true) else (impl_binType.j2 kj6 a0 a1 (a0 == 4))) = some r := by rw [if_neg (show ¬ (false = true) by decide)] at H; exact H
  clear H
  have H := H1
  clear H1
  have HC11 := mk0 H
  clear H
  go_upto_region 6 with (fail)
  go_cut [23] (fun v23 wc => ∃ (kq : Nat) (x23_10 : Bool), v23 = .bool x23_10 ∧ Aside0 (impl_binType.j2 kq a0 a1 x23_10 = some r) ∧ Aside0 (kq ≤ kj6) ∧ Drawn0 w wc)
  case first =>
    have H := HC11.out
    clear HC11
    by_cases c12 : a0 = 3
    · rw [if_pos c12] at H
      have c12b0 : (a0 == 3) = true := beq_iff_eq.mpr c12
      have c12b1 : (a0 != 3) = false := bne_eq_false_iff_eq.mpr c12
      clear c12
      (first | rw [c12b0] | (simp only [i64_w, i32_w]; rw [c12b0]) | rw [c12b4] | rw [c12b3] | skip)
      have H' := mk0 H
      clear H
      go_wp2
      go_meet
      case rel => exact ⟨_, (true), (by first | rfl | (simp; done) | (simp [*]; done)), H', ⟨by have := HJ3.out; have := HJ6.out; first | omega | exact Nat.le_refl _⟩, by repeat (first | exact Drawn0.refl _ | apply Drawn0.step)⟩
    rw [if_neg c12] at H
    have c12b0 : (a0 == 3) = false := beq_eq_false_iff_ne.mpr c12
    have c12b1 : (a0 != 3) = true := bne_iff_ne.mpr c12
    (first | rw [c12b0] | (simp only [i64_w, i32_w]; rw [c12b0]) | rw [c12b4] | rw [c12b3] | skip)
    have H' := mk0 H
    clear H
    go_wp2
    go_meet
    case rel => exact ⟨_, ((a0 == 4)), (by first | rfl | (simp; done) | (simp [*]; done)), H', ⟨by have := HJ3.out; have := HJ6.out; first | omega | exact Nat.le_refl _⟩, by repeat (first | exact Drawn0.refl _ | apply Drawn0.step)⟩
  clear HC11
  try clear c1
  try clear p2
  try clear c3
  try clear c5
  try clear c5b0
  try clear c5b1
  try clear c6
  try clear c8
  try clear c8b0
  try clear c8b1
  try clear c9
  try clear c10
  try clear c10b0
  try clear c10b1
  try clear c12
  try clear c12b0
  try clear c12b1
  try clear p2
  obtain ⟨kq, x23_10, rfl, HA, HJ10, ⟨mc10, rfl⟩⟩ := hcut
  cases kq with
  | zero => exact absurd HA.out (by simp [impl_binType.j2])
  | succ kj10 =>
  have H := HA.out
  clear HA
  simp only [impl_binType.j2] at H
  by_cases c13 : x23_10 = true
  · subst c13
    have H1 : (some 1) = some r := by rw [if_pos rfl] at H; exact H
    clear H
    have H := H1
    clear H1
    obtain rfl := Option.some.inj H
    go_wp2
    go_ret
    exact ⟨by first | rfl | (simp; done) | (simp [*]; done), by repeat (first | exact Drawn0.refl _ | apply Drawn0.step)⟩
  replace c13 := Bool.eq_false_iff.mpr c13
  subst c13
  have H1 : (if a0 ≥ 5 then (impl_binType.j3 kj10 a0 a1 (decide (a0 ≤ 8))) else (impl_binType.j3 kj10 a0 a1 false)) = some r := by rw [if_neg (show ¬ (false = true) by decide)] at H; exact H
  clear H
  have H := H1
  clear H1
  have HC14 := mk0 H
  clear H
  go_upto_region 8 with (fail)
  go_cut [30] (fun v30 wc => ∃ (kq : Nat) (x30_13 : Bool), v30 = .bool x30_13 ∧ Aside0 (impl_binType.j3 kq a0 a1 x30_13 = some r) ∧ Aside0 (kq ≤ kj10) ∧ Drawn0 w wc)
  case first =>
    have H := HC14.out
    clear HC14
    by_cases c15 : a0 ≥ 5
    · rw [if_pos c15] at H
      have c15b0 : decide (5 ≤ a0) = true := decide_eq_true c15
      clear c15
      (first | rw [c15b0] | (simp only [i64_w, i32_w]; rw [c15b0]) | rw [c15b4] | rw [c15b3] | skip)
      have H' := mk0 H
      clear H
      go_wp2
      go_meet
      case rel => exact ⟨_, (decide (a0 ≤ 8)), (by first | rfl | (simp; done) | (simp [*]; done)), H', ⟨by have := HJ3.out; have := HJ6.out; have := HJ10.out; first | omega | exact Nat.le_refl _⟩, by repeat (first | exact Drawn0.refl _ | apply Drawn0.step)⟩
    rw [if_neg c15] at H
    have c15b0 : decide (5 ≤ a0) = false := decide_eq_false c15
    clear c15
    (first | rw [c15b0] | (simp only [i64_w, i32_w]; rw [c15b0]) | rw [c15b4] | rw [c15b3] | skip)
    have H' := mk0 H
    clear H
    go_wp2
    go_meet
    case rel => exact ⟨_, (false), (by first | rfl | (simp; done) | (simp [*]; done)), H', ⟨by have := HJ3.out; have := HJ6.out; have := HJ10.out; first | omega | exact Nat.le_refl _⟩, by repeat (first | exact Drawn0.refl _ | apply Drawn0.step)⟩
  clear HC14
  try clear c1
  try clear p2
  try clear c3
  try clear c5
  try clear c5b0
  try clear c5b1
  try clear c6
  try clear c8
  try clear c8b0
  try clear c8b1
  try clear c9
  try clear c10
  try clear c10b0
  try clear c10b1
  try clear c12
  try clear c12b0
  try clear c12b1
  try clear c13
  try clear c15
  try clear c15b0
  try clear p2
  obtain ⟨kq, x30_13, rfl, HA, HJ13, ⟨mc13, rfl⟩⟩ := hcut
  cases kq with
  | zero => exact absurd HA.out (by simp [impl_binType.j3])
  | succ kj13 =>
  have H := HA.out
  clear HA
  simp only [impl_binType.j3] at H
  by_cases c16 : x30_13 = true
  · subst c16
    have H1 : ((impl_integer.f a1).bind fun t282 => (if t282 = true then (some 1) else (if a1 = 2 then (some 1) else (some 0)))) = some r := by rw [if_pos rfl] at H; exact H
    clear H
    have H := H1
    clear H1
    replace H := Option.bind_eq_some_iff.mp H
    obtain ⟨t282, A170, H⟩ := H
    replace H : (if t282 = true then (some 1) else (if a1 = 2 then (some 1) else (some 0))) = some r := H
    have A17 := mk0 A170
    clear A170
    by_cases c18 : t282 = true
    · subst c18
      have H1 : (some 1) = some r := by rw [if_pos rfl] at H; exact H
      clear H
      have H := H1
      clear H1
      obtain rfl := Option.some.inj H
      go_wp2_with (first | ((with_reducible refine gate_callee (f := 59) rfl ?_); refine goesL_ (some 38) rfl rfl Try.func59 (by kernel_rfl) rfl #[.int .i64 a1] rfl (by (try simp only [List.map_toArray, List.map_cons, List.map_nil]); first | done | rfl | (simp only [List.length_drop, List.length_take]; rfl)) ?_; (with_reducible refine (impl_integer.calls a1 true _ A17.out).mono ?_); rintro e w' ⟨rfl, ⟨nd, rfl⟩⟩; refine ⟨_, rfl, ?_⟩))
      go_ret
      exact ⟨by first | rfl | (simp; done) | (simp [*]; done), by repeat (first | exact Drawn0.refl _ | apply Drawn0.step)⟩
    replace c18 := Bool.eq_false_iff.mpr c18
    subst c18
    have H1 : (if a1 = 2 then (some 1) else (some 0)) = some r := by rw [if_neg (show ¬ (false = true) by decide)] at H; exact H
    clear H
    have H := H1
    clear H1
    by_cases c19 : a1 = 2
    · rw [if_pos c19] at H
      have c19b0 : (a1 == 2) = true := beq_iff_eq.mpr c19
      have c19b1 : (a1 != 2) = false := bne_eq_false_iff_eq.mpr c19
      clear c19
      obtain rfl := Option.some.inj H
      go_wp2_with (first | ((with_reducible refine gate_callee (f := 59) rfl ?_); refine goesL_ (some 38) rfl rfl Try.func59 (by kernel_rfl) rfl #[.int .i64 a1] rfl (by (try simp only [List.map_toArray, List.map_cons, List.map_nil]); first | done | rfl | (simp only [List.length_drop, List.length_take]; rfl)) ?_; (with_reducible refine (impl_integer.calls a1 false _ A17.out).mono ?_); rintro e w' ⟨rfl, ⟨nd, rfl⟩⟩; refine ⟨_, rfl, ?_⟩))
      go_ret
      exact ⟨by first | rfl | (simp; done) | (simp [*]; done), by repeat (first | exact Drawn0.refl _ | apply Drawn0.step)⟩
    rw [if_neg c19] at H
    have c19b0 : (a1 == 2) = false := beq_eq_false_iff_ne.mpr c19
    have c19b1 : (a1 != 2) = true := bne_iff_ne.mpr c19
    obtain rfl := Option.some.inj H
    go_wp2_with (first | ((with_reducible refine gate_callee (f := 59) rfl ?_); refine goesL_ (some 38) rfl rfl Try.func59 (by kernel_rfl) rfl #[.int .i64 a1] rfl (by (try simp only [List.map_toArray, List.map_cons, List.map_nil]); first | done | rfl | (simp only [List.length_drop, List.length_take]; rfl)) ?_; (with_reducible refine (impl_integer.calls a1 false _ A17.out).mono ?_); rintro e w' ⟨rfl, ⟨nd, rfl⟩⟩; refine ⟨_, rfl, ?_⟩))
    go_ret
    exact ⟨by first | rfl | (simp; done) | (simp [*]; done), by repeat (first | exact Drawn0.refl _ | apply Drawn0.step)⟩
  replace c16 := Bool.eq_false_iff.mpr c16
  subst c16
  have H1 : (if a0 = 9 then ((impl_integer.f a1).bind fun t283 => (if t283 = true then (some a1) else (if a1 = 2 then (some a1) else (some 0)))) else (if a0 > 9 then (impl_binType.j4 kj13 a1 (decide (a0 ≤ 18))) else (impl_binType.j4 kj13 a1 false))) = some r := by rw [if_neg (show ¬ (false = true) by decide)] at H; exact H
  clear H
  have H := H1
  clear H1
  by_cases c20 : a0 = 9
  · rw [if_pos c20] at H
    have c20b0 : (a0 == 9) = true := beq_iff_eq.mpr c20
    have c20b1 : (a0 != 9) = false := bne_eq_false_iff_eq.mpr c20
    clear c20
    replace H := Option.bind_eq_some_iff.mp H
    obtain ⟨t283, A210, H⟩ := H
    replace H : (if t283 = true then (some a1) else (if a1 = 2 then (some a1) else (some 0))) = some r := H
    have A21 := mk0 A210
    clear A210
    by_cases c22 : t283 = true
    · subst c22
      have H1 : (some a1) = some r := by rw [if_pos rfl] at H; exact H
      clear H
      have H := H1
      clear H1
      obtain rfl := Option.some.inj H
      go_wp2_with (first | ((with_reducible refine gate_callee (f := 59) rfl ?_); refine goesL_ (some 47) rfl rfl Try.func59 (by kernel_rfl) rfl #[.int .i64 a1] rfl (by (try simp only [List.map_toArray, List.map_cons, List.map_nil]); first | done | rfl | (simp only [List.length_drop, List.length_take]; rfl)) ?_; (with_reducible refine (impl_integer.calls a1 true _ A21.out).mono ?_); rintro e w' ⟨rfl, ⟨nd, rfl⟩⟩; refine ⟨_, rfl, ?_⟩))
      go_ret
      exact ⟨by first | rfl | (simp; done) | (simp [*]; done), by repeat (first | exact Drawn0.refl _ | apply Drawn0.step)⟩
    replace c22 := Bool.eq_false_iff.mpr c22
    subst c22
    have H1 : (if a1 = 2 then (some a1) else (some 0)) = some r := by rw [if_neg (show ¬ (false = true) by decide)] at H; exact H
    clear H
    have H := H1
    clear H1
    by_cases c23 : a1 = 2
    · rw [if_pos c23] at H
      have c23b0 : (a1 == 2) = true := beq_iff_eq.mpr c23
      have c23b1 : (a1 != 2) = false := bne_eq_false_iff_eq.mpr c23
      clear c23
      obtain rfl := Option.some.inj H
      go_wp2_with (first | ((with_reducible refine gate_callee (f := 59) rfl ?_); refine goesL_ (some 47) rfl rfl Try.func59 (by kernel_rfl) rfl #[.int .i64 a1] rfl (by (try simp only [List.map_toArray, List.map_cons, List.map_nil]); first | done | rfl | (simp only [List.length_drop, List.length_take]; rfl)) ?_; (with_reducible refine (impl_integer.calls a1 false _ A21.out).mono ?_); rintro e w' ⟨rfl, ⟨nd, rfl⟩⟩; refine ⟨_, rfl, ?_⟩))
      go_ret
      exact ⟨by first | rfl | (simp; done) | (simp [*]; done), by repeat (first | exact Drawn0.refl _ | apply Drawn0.step)⟩
    rw [if_neg c23] at H
    have c23b0 : (a1 == 2) = false := beq_eq_false_iff_ne.mpr c23
    have c23b1 : (a1 != 2) = true := bne_iff_ne.mpr c23
    obtain rfl := Option.some.inj H
    go_wp2_with (first | ((with_reducible refine gate_callee (f := 59) rfl ?_); refine goesL_ (some 47) rfl rfl Try.func59 (by kernel_rfl) rfl #[.int .i64 a1] rfl (by (try simp only [List.map_toArray, List.map_cons, List.map_nil]); first | done | rfl | (simp only [List.length_drop, List.length_take]; rfl)) ?_; (with_reducible refine (impl_integer.calls a1 false _ A21.out).mono ?_); rintro e w' ⟨rfl, ⟨nd, rfl⟩⟩; refine ⟨_, rfl, ?_⟩))
    go_ret
    exact ⟨by first | rfl | (simp; done) | (simp [*]; done), by repeat (first | exact Drawn0.refl _ | apply Drawn0.step)⟩
  rw [if_neg c20] at H
  have c20b0 : (a0 == 9) = false := beq_eq_false_iff_ne.mpr c20
  have c20b1 : (a0 != 9) = true := bne_iff_ne.mpr c20
  have HC24 := mk0 H
  clear H
  go_upto_region 14 with (fail)
  go_cut [53] (fun v53 wc => ∃ (kq : Nat) (x53_23 : Bool), v53 = .bool x53_23 ∧ Aside0 (impl_binType.j4 kq a1 x53_23 = some r) ∧ Aside0 (kq ≤ kj13) ∧ Drawn0 w wc)
  case first =>
    have H := HC24.out
    clear HC24
    by_cases c25 : a0 > 9
    · rw [if_pos c25] at H
      have c25b0 : decide (9 < a0) = true := decide_eq_true c25
      clear c25
      (first | rw [c25b0] | (simp only [i64_w, i32_w]; rw [c25b0]) | rw [c25b4] | rw [c25b3] | skip)
      have H' := mk0 H
      clear H
      go_wp2
      go_meet
      case rel => exact ⟨_, (decide (a0 ≤ 18)), (by first | rfl | (simp; done) | (simp [*]; done)), H', ⟨by have := HJ3.out; have := HJ6.out; have := HJ10.out; have := HJ13.out; first | omega | exact Nat.le_refl _⟩, by repeat (first | exact Drawn0.refl _ | apply Drawn0.step)⟩
    rw [if_neg c25] at H
    have c25b0 : decide (9 < a0) = false := decide_eq_false c25
    clear c25
    (first | rw [c25b0] | (simp only [i64_w, i32_w]; rw [c25b0]) | rw [c25b4] | rw [c25b3] | skip)
    have H' := mk0 H
    clear H
    go_wp2
    go_meet
    case rel => exact ⟨_, (false), (by first | rfl | (simp; done) | (simp [*]; done)), H', ⟨by have := HJ3.out; have := HJ6.out; have := HJ10.out; have := HJ13.out; first | omega | exact Nat.le_refl _⟩, by repeat (first | exact Drawn0.refl _ | apply Drawn0.step)⟩
  clear HC24
  try clear c1
  try clear c2
  try clear p2
  try clear c3
  try clear c5
  try clear c5b0
  try clear c5b1
  try clear c6
  try clear c8
  try clear c8b0
  try clear c8b1
  try clear c9
  try clear c10
  try clear c10b0
  try clear c10b1
  try clear c12
  try clear c12b0
  try clear c12b1
  try clear c13
  try clear c15
  try clear c15b0
  try clear c16
  try clear c18
  try clear c19
  try clear c19b0
  try clear c19b1
  try clear c20
  try clear c20b0
  try clear c20b1
  try clear c22
  try clear c23
  try clear c23b0
  try clear c23b1
  try clear c25
  try clear c25b0
  try clear p2
  obtain ⟨kq, x53_23, rfl, HA, HJ23, ⟨mc23, rfl⟩⟩ := hcut
  cases kq with
  | zero => exact absurd HA.out (by simp [impl_binType.j4])
  | succ kj23 =>
  have H := HA.out
  clear HA
  simp only [impl_binType.j4] at H
  by_cases c26 : x53_23 = true
  · subst c26
    have H1 : ((impl_integer.f a1).bind fun t284 => (if t284 = true then (some a1) else (some 0))) = some r := by rw [if_pos rfl] at H; exact H
    clear H
    have H := H1
    clear H1
    replace H := Option.bind_eq_some_iff.mp H
    obtain ⟨t284, A270, H⟩ := H
    replace H : (if t284 = true then (some a1) else (some 0)) = some r := H
    have A27 := mk0 A270
    clear A270
    by_cases c28 : t284 = true
    · subst c28
      have H1 : (some a1) = some r := by rw [if_pos rfl] at H; exact H
      clear H
      have H := H1
      clear H1
      obtain rfl := Option.some.inj H
      go_wp2_with (first | ((with_reducible refine gate_callee (f := 59) rfl ?_); refine goesL_ (some 61) rfl rfl Try.func59 (by kernel_rfl) rfl #[.int .i64 a1] rfl (by (try simp only [List.map_toArray, List.map_cons, List.map_nil]); first | done | rfl | (simp only [List.length_drop, List.length_take]; rfl)) ?_; (with_reducible refine (impl_integer.calls a1 true _ A27.out).mono ?_); rintro e w' ⟨rfl, ⟨nd, rfl⟩⟩; refine ⟨_, rfl, ?_⟩))
      go_ret
      exact ⟨by first | rfl | (simp; done) | (simp [*]; done), by repeat (first | exact Drawn0.refl _ | apply Drawn0.step)⟩
    replace c28 := Bool.eq_false_iff.mpr c28
    subst c28
    have H1 : (some 0) = some r := by rw [if_neg (show ¬ (false = true) by decide)] at H; exact H
    clear H
    have H := H1
    clear H1
    obtain rfl := Option.some.inj H
    go_wp2_with (first | ((with_reducible refine gate_callee (f := 59) rfl ?_); refine goesL_ (some 61) rfl rfl Try.func59 (by kernel_rfl) rfl #[.int .i64 a1] rfl (by (try simp only [List.map_toArray, List.map_cons, List.map_nil]); first | done | rfl | (simp only [List.length_drop, List.length_take]; rfl)) ?_; (with_reducible refine (impl_integer.calls a1 false _ A27.out).mono ?_); rintro e w' ⟨rfl, ⟨nd, rfl⟩⟩; refine ⟨_, rfl, ?_⟩))
    go_ret
    exact ⟨by first | rfl | (simp; done) | (simp [*]; done), by repeat (first | exact Drawn0.refl _ | apply Drawn0.step)⟩
  replace c26 := Bool.eq_false_iff.mpr c26
  subst c26
  have H1 : (some 0) = some r := by rw [if_neg (show ¬ (false = true) by decide)] at H; exact H
  clear H
  have H := H1
  clear H1
  obtain rfl := Option.some.inj H
  go_wp2
  go_ret
  exact ⟨by first | rfl | (simp; done) | (simp [*]; done), by repeat (first | exact Drawn0.refl _ | apply Drawn0.step)⟩

end Go.Proofs.Ytajlomhnednghaa.B
namespace Go.Proofs.Ytajlomhnednghaa.B
open Go.RowKit Go.Proofs.YtajlomhnednghaaW.PrintWords Go.Proofs.YtajlomhnednghaaW.PrintLast Go.Proofs.YtajlomhnednghaaW.PrintMore
attribute [local go_sem] max2_int min2_int max_two min_two max_three min_three max_four min_four   -- for this text's walks alone
set_option linter.unusedVariables false
set_option linter.unusedSimpArgs false

-- NOT PRINTED: function 122 (bytealg_abigen_runtime_cmpstring)

-- NOT PRINTED: function 119 (bytealg_CompareString)

/-! ### strings_Compare: function 113 -/
def strings_Compare.f (a0 : ByteArray) (a1 : ByteArray) : Option (Int) := some (Lib.compareBytes a0.data.toList a1.data.toList)
theorem strings_Compare.calls (a0 : ByteArray) (a1 : ByteArray) (r : Int) (w : World) (h : strings_Compare.f a0 a1 = some r) :
    Calls Try.prog 113 #[.string a0, .string a1] w fun e w' => e = .returned (.int .i64 r) ∧ Drawn0 w w' := by
  obtain rfl := Option.some.inj h
  exact (Try.strings_Compare a0 a1 w).mono fun e w' ⟨he, hw⟩ => ⟨he, by subst hw; exact Drawn0.refl _⟩

end Go.Proofs.Ytajlomhnednghaa.B
namespace Go.Proofs.Ytajlomhnednghaa.B
open Go.RowKit Go.Proofs.YtajlomhnednghaaW.PrintWords Go.Proofs.YtajlomhnednghaaW.PrintLast Go.Proofs.YtajlomhnednghaaW.PrintMore
attribute [local go_sem] max2_int min2_int max_two min_two max_three min_three max_four min_four   -- for this text's walks alone
set_option linter.unusedVariables false
set_option linter.unusedSimpArgs false

/-! ### impl_order: function 93 -/
def impl_order.j0 : Nat → Bool → Int → Int → ByteArray → Int → Int → ByteArray → Option (Int)
  | 0, _, _, _, _, _, _, _ => none
  | k + 1, x5, x286000, x286001, x286002, x287000, x287001, x287002 => if x5 = true then (some (-1)) else (if x286001 = x287001 then (some 0) else (some 1))
def impl_order.f (k : Nat) (a0_0 : Int) (a0_1 : Int) (a0_2 : ByteArray) (a1_0 : Int) (a1_1 : Int) (a1_2 : ByteArray) : Option (Int) := if a0_0 = 2 then ((strings_Compare.f a0_2 a1_2).bind fun t287 => (some t287)) else ((impl_signed.f a0_0).bind fun t288 => (if t288 = true then (impl_order.j0 k (decide (a0_1 < a1_1)) a0_0 a0_1 a0_2 a1_0 a1_1 a1_2) else (impl_order.j0 k (decide ((IntKind.u64.wrap (a0_1)) < (IntKind.u64.wrap (a1_1)))) a0_0 a0_1 a0_2 a1_0 a1_1 a1_2)))
theorem impl_order.mono_l : ∀ k, (∀ y0 y1 y2 y3 y4 y5 y6, LeO (impl_order.j0 k y0 y1 y2 y3 y4 y5 y6) (impl_order.j0 (k + 1) y0 y1 y2 y3 y4 y5 y6))
  | 0 => fun _ _ _ _ _ _ _ r h => by simp [impl_order.j0] at h
  | k + 1 => by
    have ih0 := impl_order.mono_l k
    intro y0 y1 y2 y3 y4 y5 y6
    unfold impl_order.j0
    repeat' first
    | (with_reducible exact ih0 _ _ _ _ _ _ _)
    | (with_reducible exact LeO.refl _)
    | (with_reducible exact LeO.none _)
    | (with_reducible refine LeO.ite ?_ ?_)
    | (with_reducible refine LeO.bind ?_ (fun _ => ?_))
    | exact ih0 _ _ _ _ _ _ _
    | exact LeO.none _
    | refine LeO.ite ?_ ?_
    | refine LeO.bind ?_ (fun _ => ?_)
theorem impl_order.mono : ∀ a0 a1 a2 a3 a4 a5 k, LeO (impl_order.f k a0 a1 a2 a3 a4 a5) (impl_order.f (k + 1) a0 a1 a2 a3 a4 a5) := by
  intro a0 a1 a2 a3 a4 a5 k
  have ih0 := impl_order.mono_l k
  unfold impl_order.f
  repeat' first
      | (with_reducible exact ih0 _ _ _ _ _ _ _)
      | (with_reducible exact LeO.refl _)
      | (with_reducible exact LeO.none _)
      | (with_reducible refine LeO.ite ?_ ?_)
      | (with_reducible refine LeO.bind ?_ (fun _ => ?_))
      | exact ih0 _ _ _ _ _ _ _
      | exact LeO.none _
      | refine LeO.ite ?_ ?_
      | refine LeO.bind ?_ (fun _ => ?_)
set_option maxHeartbeats 8000000 in
set_option maxRecDepth 100000 in
theorem impl_order.calls (k : Nat) (a0_0 : Int) (a0_1 : Int) (a0_2 : ByteArray) (a1_0 : Int) (a1_1 : Int) (a1_2 : ByteArray) (r : Int) (w : World) (h : impl_order.f k a0_0 a0_1 a0_2 a1_0 a1_1 a1_2 = some r) :
    Calls Try.prog 93 #[.agg #[.int .i64 a0_0, .int .i64 a0_1, .string a0_2], .agg #[.int .i64 a1_0, .int .i64 a1_1, .string a1_2]] w fun e w' => e = .returned (.int .i64 r) ∧ Below w.heap.size w w' := by
  have hu34 := Try.underlying34
  have HB := mk0 (Below.refl w.heap.size w)
  have H : (if a0_0 = 2 then ((strings_Compare.f a0_2 a1_2).bind fun t287 => (some t287)) else ((impl_signed.f a0_0).bind fun t288 => (if t288 = true then (impl_order.j0 k (decide (a0_1 < a1_1)) a0_0 a0_1 a0_2 a1_0 a1_1 a1_2) else (impl_order.j0 k (decide ((IntKind.u64.wrap (a0_1)) < (IntKind.u64.wrap (a1_1)))) a0_0 a0_1 a0_2 a1_0 a1_1 a1_2)))) = some r := h
  clear h
  by_cases c3 : a0_0 = 2
  · rw [if_pos c3] at H
    have c3b0 : (a0_0 == 2) = true := beq_iff_eq.mpr c3
    have c3b1 : (a0_0 != 2) = false := bne_eq_false_iff_eq.mpr c3
    clear c3
    replace H := Option.bind_eq_some_iff.mp H
    obtain ⟨t287, A40, H⟩ := H
    replace H : (some t287) = some r := H
    have A4 := mk0 A40
    clear A40
    obtain rfl := Option.some.inj H
    go_enter Try.func93, Try.ntmps93
    go_wp2_with (first | ((with_reducible refine gate_dst (N := 2) rfl ?_); refine box_event ?hg (N := 2) ?hd (cs := #[.int .i64 a0_0, .int .i64 a0_1, .string a0_2]) (t := 34) ?hr ?_; (case hd => rfl); (case hg => rfl); (case hr => first | (go_simp; done) | (go_simp; rfl)); intro gb285 hg w5 hbox hb; have n0_ := mk0 (below_step (by repeat (first | (with_reducible first | exact HB.out | apply wA | apply wN | apply wD) | exact HB.out)) hb); have n1_ := mk0 (hbox); have n2_ := mk0 ((by rw [hg]; exact (below_size (by repeat (first | (with_reducible first | exact HB.out | apply wA | apply wN | apply wD) | exact HB.out))) : w.heap.size ≤ gb285)); have n3_ := mk0 ((by rw [hg]; exact (below_size (by repeat (first | (with_reducible first | exact HB.out | apply wA | apply wN | apply wD) | exact HB.out))) : w.heap.size ≤ gb285)); clear HB; have HB := n0_; have BK285 := n1_; have GW285 := n2_; have GE285 := n3_; clear n0_ n1_ n2_ n3_; clear hb hbox hg) | ((with_reducible refine gate_dst (N := 3) rfl ?_); refine box_event ?hg (N := 3) ?hd (cs := #[.int .i64 a1_0, .int .i64 a1_1, .string a1_2]) (t := 34) ?hr ?_; (case hd => rfl); (case hg => rfl); (case hr => first | (go_simp; done) | (go_simp; rfl)); intro gb286 hg w6 hbox hb; have n0_ := mk0 (bB (g := gb285) (o := .cells #[.int .i64 a0_0, .int .i64 a0_1, .string a0_2] 34 (0, 0)) (by (with_reducible repeat (first | apply bN | apply bD | apply bA)); exact BK285.out) hb); have n1_ := mk0 (below_step (by repeat (first | (with_reducible first | exact HB.out | apply wA | apply wN | apply wD | refine wS ?_ GE285.out) | exact HB.out)) hb); have n2_ := mk0 (hbox); have n3_ := mk0 ((by rw [hg]; exact (below_size (by repeat (first | (with_reducible first | exact HB.out | apply wA | apply wN | apply wD | refine wS ?_ GE285.out) | exact HB.out))) : w.heap.size ≤ gb286)); have n4_ := mk0 ((by rw [hg]; exact (below_size (by repeat (first | (with_reducible first | exact HB.out | apply wA | apply wN | apply wD | refine wS ?_ GE285.out) | exact HB.out))) : w.heap.size ≤ gb286)); have n5_ := mk0 ((by rw [hg]; exact Nat.ne_of_lt (blk_lt (g := gb285) (o := .cells #[.int .i64 a0_0, .int .i64 a0_1, .string a0_2] 34 (0, 0)) (by (with_reducible repeat (first | apply bN | apply bD | apply bA)); exact BK285.out)) : gb285 ≠ gb286)); have n6_ := mk0 ((by rw [hg]; exact Nat.ne_of_gt (blk_lt (g := gb285) (o := .cells #[.int .i64 a0_0, .int .i64 a0_1, .string a0_2] 34 (0, 0)) (by (with_reducible repeat (first | apply bN | apply bD | apply bA)); exact BK285.out)) : gb286 ≠ gb285)); clear BK285; clear HB; have BK285 := n0_; have HB := n1_; have BK286 := n2_; have GW286 := n3_; have GE286 := n4_; have NB285_286 := n5_; have NB286_285 := n6_; clear n0_ n1_ n2_ n3_ n4_ n5_ n6_; clear hb hbox hg; have hnb7 := NB285_286.out; have hnc7 := NB286_285.out; have hcz8_0 : w6.cell? ⟨gb285, 0, none⟩ = some (.int .i64 a0_0) := (bC BK285.out 0).trans rfl; have hcz8_1 : w6.cell? ⟨gb285, 1, none⟩ = some (.int .i64 a0_1) := (bC BK285.out 1).trans rfl; have hcz8_2 : w6.cell? ⟨gb285, 2, none⟩ = some (.string a0_2) := (bC BK285.out 2).trans rfl; have hfz8_0 := bF BK285.out 0; have hfz8_1 := bF BK285.out 1; have hfz8_2 := bF BK285.out 2; have hcz9_0 : w6.cell? ⟨gb286, 0, none⟩ = some (.int .i64 a1_0) := (bC BK286.out 0).trans rfl; have hcz9_1 : w6.cell? ⟨gb286, 1, none⟩ = some (.int .i64 a1_1) := (bC BK286.out 1).trans rfl; have hcz9_2 : w6.cell? ⟨gb286, 2, none⟩ = some (.string a1_2) := (bC BK286.out 2).trans rfl; have hfz9_0 := bF BK286.out 0; have hfz9_1 := bF BK286.out 1; have hfz9_2 := bF BK286.out 2) | ((with_reducible refine gate_callee (f := 113) rfl ?_); refine goesL_ (some 18) rfl rfl Try.func113 (by kernel_rfl) rfl #[.string a0_2, .string a1_2] rfl (by (try simp only [List.map_toArray, List.map_cons, List.map_nil]); first | done | rfl | (simp only [List.length_drop, List.length_take]; rfl)) ?_; (with_reducible refine (strings_Compare.calls a0_2 a1_2 t287 _ A4.out).mono ?_); rintro e w' ⟨rfl, ⟨nd, rfl⟩⟩; refine ⟨_, rfl, ?_⟩))
    go_ret
    exact ⟨by first | rfl | (simp [errW_none, errW_some] <;> rfl) | (simp [*, errW_none, errW_some] <;> rfl), by repeat (first | (with_reducible first | exact HB.out | apply wA | apply wN | apply wD | refine wS ?_ GE285.out | refine wS ?_ GE286.out) | exact HB.out)⟩
  rw [if_neg c3] at H
  have c3b0 : (a0_0 == 2) = false := beq_eq_false_iff_ne.mpr c3
  have c3b1 : (a0_0 != 2) = true := bne_iff_ne.mpr c3
  replace H := Option.bind_eq_some_iff.mp H
  obtain ⟨t288, A100, H⟩ := H
  replace H : (if t288 = true then (impl_order.j0 k (decide (a0_1 < a1_1)) a0_0 a0_1 a0_2 a1_0 a1_1 a1_2) else (impl_order.j0 k (decide ((IntKind.u64.wrap (a0_1)) < (IntKind.u64.wrap (a1_1)))) a0_0 a0_1 a0_2 a1_0 a1_1 a1_2)) = some r := H
  have A10 := mk0 A100
  clear A100
  have HC11 := mk0 H
  clear H
  go_enter Try.func93, Try.ntmps93
  go_upto_if 22 with (first | ((with_reducible refine gate_dst (N := 2) rfl ?_); refine box_event ?hg (N := 2) ?hd (cs := #[.int .i64 a0_0, .int .i64 a0_1, .string a0_2]) (t := 34) ?hr ?_; (case hd => rfl); (case hg => rfl); (case hr => first | (go_simp; done) | (go_simp; rfl)); intro gb285 hg w12 hbox hb; have n0_ := mk0 (below_step (by repeat (first | (with_reducible first | exact HB.out | apply wA | apply wN | apply wD) | exact HB.out)) hb); have n1_ := mk0 (hbox); have n2_ := mk0 ((by rw [hg]; exact (below_size (by repeat (first | (with_reducible first | exact HB.out | apply wA | apply wN | apply wD) | exact HB.out))) : w.heap.size ≤ gb285)); have n3_ := mk0 ((by rw [hg]; exact (below_size (by repeat (first | (with_reducible first | exact HB.out | apply wA | apply wN | apply wD) | exact HB.out))) : w.heap.size ≤ gb285)); clear HB; have HB := n0_; have BK285 := n1_; have GW285 := n2_; have GE285 := n3_; clear n0_ n1_ n2_ n3_; clear hb hbox hg) | ((with_reducible refine gate_dst (N := 3) rfl ?_); refine box_event ?hg (N := 3) ?hd (cs := #[.int .i64 a1_0, .int .i64 a1_1, .string a1_2]) (t := 34) ?hr ?_; (case hd => rfl); (case hg => rfl); (case hr => first | (go_simp; done) | (go_simp; rfl)); intro gb286 hg w13 hbox hb; have n0_ := mk0 (bB (g := gb285) (o := .cells #[.int .i64 a0_0, .int .i64 a0_1, .string a0_2] 34 (0, 0)) (by (with_reducible repeat (first | apply bN | apply bD | apply bA)); exact BK285.out) hb); have n1_ := mk0 (below_step (by repeat (first | (with_reducible first | exact HB.out | apply wA | apply wN | apply wD | refine wS ?_ GE285.out) | exact HB.out)) hb); have n2_ := mk0 (hbox); have n3_ := mk0 ((by rw [hg]; exact (below_size (by repeat (first | (with_reducible first | exact HB.out | apply wA | apply wN | apply wD | refine wS ?_ GE285.out) | exact HB.out))) : w.heap.size ≤ gb286)); have n4_ := mk0 ((by rw [hg]; exact (below_size (by repeat (first | (with_reducible first | exact HB.out | apply wA | apply wN | apply wD | refine wS ?_ GE285.out) | exact HB.out))) : w.heap.size ≤ gb286)); have n5_ := mk0 ((by rw [hg]; exact Nat.ne_of_lt (blk_lt (g := gb285) (o := .cells #[.int .i64 a0_0, .int .i64 a0_1, .string a0_2] 34 (0, 0)) (by (with_reducible repeat (first | apply bN | apply bD | apply bA)); exact BK285.out)) : gb285 ≠ gb286)); have n6_ := mk0 ((by rw [hg]; exact Nat.ne_of_gt (blk_lt (g := gb285) (o := .cells #[.int .i64 a0_0, .int .i64 a0_1, .string a0_2] 34 (0, 0)) (by (with_reducible repeat (first | apply bN | apply bD | apply bA)); exact BK285.out)) : gb286 ≠ gb285)); clear BK285; clear HB; have BK285 := n0_; have HB := n1_; have BK286 := n2_; have GW286 := n3_; have GE286 := n4_; have NB285_286 := n5_; have NB286_285 := n6_; clear n0_ n1_ n2_ n3_ n4_ n5_ n6_; clear hb hbox hg; have hnb14 := NB285_286.out; have hnc14 := NB286_285.out; have hcz15_0 : w13.cell? ⟨gb285, 0, none⟩ = some (.int .i64 a0_0) := (bC BK285.out 0).trans rfl; have hcz15_1 : w13.cell? ⟨gb285, 1, none⟩ = some (.int .i64 a0_1) := (bC BK285.out 1).trans rfl; have hcz15_2 : w13.cell? ⟨gb285, 2, none⟩ = some (.string a0_2) := (bC BK285.out 2).trans rfl; have hfz15_0 := bF BK285.out 0; have hfz15_1 := bF BK285.out 1; have hfz15_2 := bF BK285.out 2; have hcz16_0 : w13.cell? ⟨gb286, 0, none⟩ = some (.int .i64 a1_0) := (bC BK286.out 0).trans rfl; have hcz16_1 : w13.cell? ⟨gb286, 1, none⟩ = some (.int .i64 a1_1) := (bC BK286.out 1).trans rfl; have hcz16_2 : w13.cell? ⟨gb286, 2, none⟩ = some (.string a1_2) := (bC BK286.out 2).trans rfl; have hfz16_0 := bF BK286.out 0; have hfz16_1 := bF BK286.out 1; have hfz16_2 := bF BK286.out 2) | ((with_reducible refine gate_callee (f := 104) rfl ?_); refine goesL_ (some 21) rfl rfl Try.func104 (by kernel_rfl) rfl #[.int .i64 a0_0] rfl (by (try simp only [List.map_toArray, List.map_cons, List.map_nil]); first | done | rfl | (simp only [List.length_drop, List.length_take]; rfl)) ?_; (with_reducible refine (impl_signed.calls a0_0 t288 _ A10.out).mono ?_); rintro e w' ⟨rfl, ⟨nd, rfl⟩⟩; refine ⟨_, rfl, ?_⟩))
  (try simp only [Act.put, List.setIfInBounds_toArray, List.set_cons_zero, List.set_cons_succ])
  go_cut [5] (fun v5 wc => ∃ (kq : Nat) (x5_10 : Bool), v5 = .bool x5_10 ∧ Aside0 (impl_order.j0 kq x5_10 a0_0 a0_1 a0_2 a1_0 a1_1 a1_2 = some r) ∧ Aside0 (kq ≤ k) ∧ Aside0 (wc.heap[gb285]? = some (.cells #[.int .i64 a0_0, .int .i64 a0_1, .string a0_2] 34 (0, 0))) ∧ Aside0 (wc.heap[gb286]? = some (.cells #[.int .i64 a1_0, .int .i64 a1_1, .string a1_2] 34 (0, 0))) ∧ Aside0 (Below w.heap.size w wc))
  case first =>
    have H := HC11.out
    clear HC11
    by_cases c17 : t288 = true
    · subst c17
      have H1 : (impl_order.j0 k (decide (a0_1 < a1_1)) a0_0 a0_1 a0_2 a1_0 a1_1 a1_2) = some r := by rw [if_pos rfl] at H; exact H
      clear H
      have H := H1
      clear H1
      have H' := mk0 H
      clear H
      go_wp2
      go_meet
      case rel => exact ⟨_, (decide (a0_1 < a1_1)), (by first | rfl | (simp; done) | (simp [*]; done)), H', ⟨by first | omega | exact Nat.le_refl _⟩, ⟨by (with_reducible repeat (first | apply bN | apply bD | apply bA)); exact BK285.out⟩, ⟨by (with_reducible repeat (first | apply bN | apply bD | apply bA)); exact BK286.out⟩, ⟨by repeat (first | (with_reducible first | exact HB.out | apply wA | apply wN | apply wD | refine wS ?_ GE285.out | refine wS ?_ GE286.out) | exact HB.out)⟩⟩
    replace c17 := Bool.eq_false_iff.mpr c17
    subst c17
    have H1 : (impl_order.j0 k (decide ((IntKind.u64.wrap (a0_1)) < (IntKind.u64.wrap (a1_1)))) a0_0 a0_1 a0_2 a1_0 a1_1 a1_2) = some r := by rw [if_neg (show ¬ (false = true) by decide)] at H; exact H
    clear H
    have H := H1
    clear H1
    have H' := mk0 H
    clear H
    have hnb18 := NB285_286.out
    have hnc18 := NB286_285.out
    have hcz19_0 : w13.cell? ⟨gb285, 0, none⟩ = some (.int .i64 a0_0) := (bC BK285.out 0).trans rfl
    have hcz19_1 : w13.cell? ⟨gb285, 1, none⟩ = some (.int .i64 a0_1) := (bC BK285.out 1).trans rfl
    have hcz19_2 : w13.cell? ⟨gb285, 2, none⟩ = some (.string a0_2) := (bC BK285.out 2).trans rfl
    have hfz19_0 := bF BK285.out 0
    have hfz19_1 := bF BK285.out 1
    have hfz19_2 := bF BK285.out 2
    have hcz20_0 : w13.cell? ⟨gb286, 0, none⟩ = some (.int .i64 a1_0) := (bC BK286.out 0).trans rfl
    have hcz20_1 : w13.cell? ⟨gb286, 1, none⟩ = some (.int .i64 a1_1) := (bC BK286.out 1).trans rfl
    have hcz20_2 : w13.cell? ⟨gb286, 2, none⟩ = some (.string a1_2) := (bC BK286.out 2).trans rfl
    have hfz20_0 := bF BK286.out 0
    have hfz20_1 := bF BK286.out 1
    have hfz20_2 := bF BK286.out 2
    go_wp2
    go_meet
    case rel => exact ⟨_, (decide ((IntKind.u64.wrap (a0_1)) < (IntKind.u64.wrap (a1_1)))), (by first | rfl | (simp; done) | (simp [*]; done)), H', ⟨by first | omega | exact Nat.le_refl _⟩, ⟨by (with_reducible repeat (first | apply bN | apply bD | apply bA)); exact BK285.out⟩, ⟨by (with_reducible repeat (first | apply bN | apply bD | apply bA)); exact BK286.out⟩, ⟨by repeat (first | (with_reducible first | exact HB.out | apply wA | apply wN | apply wD | refine wS ?_ GE285.out | refine wS ?_ GE286.out) | exact HB.out)⟩⟩
  clear HC11
  try clear c1
  try clear p2
  try clear c3
  try clear c3b0
  try clear c3b1
  try clear c7
  try clear c9
  try clear c10
  try clear c11
  try clear c14
  try clear c17
  try clear c18
  try clear hcz15_0
  try clear hcz15_1
  try clear hcz15_2
  try clear hcz16_0
  try clear hcz16_1
  try clear hcz16_2
  try clear hcz19_0
  try clear hcz19_1
  try clear hcz19_2
  try clear hcz20_0
  try clear hcz20_1
  try clear hcz20_2
  try clear hcz8_0
  try clear hcz8_1
  try clear hcz8_2
  try clear hcz9_0
  try clear hcz9_1
  try clear hcz9_2
  try clear hfz15_0
  try clear hfz15_1
  try clear hfz15_2
  try clear hfz16_0
  try clear hfz16_1
  try clear hfz16_2
  try clear hfz19_0
  try clear hfz19_1
  try clear hfz19_2
  try clear hfz20_0
  try clear hfz20_1
  try clear hfz20_2
  try clear hfz8_0
  try clear hfz8_1
  try clear hfz8_2
  try clear hfz9_0
  try clear hfz9_1
  try clear hfz9_2
  obtain ⟨kq, x5_10, rfl, HA, HJ10, BK285, BK286, HB⟩ := hcut
  cases kq with
  | zero => exact absurd HA.out (by simp [impl_order.j0])
  | succ kj10 =>
  have H := HA.out
  clear HA
  simp only [impl_order.j0] at H
  by_cases c21 : x5_10 = true
  · subst c21
    have H1 : (some (-1)) = some r := by rw [if_pos rfl] at H; exact H
    clear H
    have H := H1
    clear H1
    obtain rfl := Option.some.inj H
    go_wp2
    go_ret
    exact ⟨by first | rfl | (simp [errW_none, errW_some] <;> rfl) | (simp [*, errW_none, errW_some] <;> rfl), by repeat (first | (with_reducible first | exact HB.out | apply wA | apply wN | apply wD | refine wS ?_ GE285.out | refine wS ?_ GE286.out) | exact HB.out)⟩
  replace c21 := Bool.eq_false_iff.mpr c21
  subst c21
  have H1 : (if a0_1 = a1_1 then (some 0) else (some 1)) = some r := by rw [if_neg (show ¬ (false = true) by decide)] at H; exact H
  clear H
  have H := H1
  clear H1
  by_cases c22 : a0_1 = a1_1
  · rw [if_pos c22] at H
    have c22b0 : (a0_1 == a1_1) = true := beq_iff_eq.mpr c22
    have c22b1 : (a0_1 != a1_1) = false := bne_eq_false_iff_eq.mpr c22
    clear c22
    obtain rfl := Option.some.inj H
    have hnb23 := NB285_286.out
    have hnc23 := NB286_285.out
    have hcz24_0 : wc.cell? ⟨gb285, 0, none⟩ = some (.int .i64 a0_0) := (bC BK285.out 0).trans rfl
    have hcz24_1 : wc.cell? ⟨gb285, 1, none⟩ = some (.int .i64 a0_1) := (bC BK285.out 1).trans rfl
    have hcz24_2 : wc.cell? ⟨gb285, 2, none⟩ = some (.string a0_2) := (bC BK285.out 2).trans rfl
    have hfz24_0 := bF BK285.out 0
    have hfz24_1 := bF BK285.out 1
    have hfz24_2 := bF BK285.out 2
    have hcz25_0 : wc.cell? ⟨gb286, 0, none⟩ = some (.int .i64 a1_0) := (bC BK286.out 0).trans rfl
    have hcz25_1 : wc.cell? ⟨gb286, 1, none⟩ = some (.int .i64 a1_1) := (bC BK286.out 1).trans rfl
    have hcz25_2 : wc.cell? ⟨gb286, 2, none⟩ = some (.string a1_2) := (bC BK286.out 2).trans rfl
    have hfz25_0 := bF BK286.out 0
    have hfz25_1 := bF BK286.out 1
    have hfz25_2 := bF BK286.out 2
    go_wp2
    go_ret
    exact ⟨by first | rfl | (simp [errW_none, errW_some] <;> rfl) | (simp [*, errW_none, errW_some] <;> rfl), by repeat (first | (with_reducible first | exact HB.out | apply wA | apply wN | apply wD | refine wS ?_ GE285.out | refine wS ?_ GE286.out) | exact HB.out)⟩
  rw [if_neg c22] at H
  have c22b0 : (a0_1 == a1_1) = false := beq_eq_false_iff_ne.mpr c22
  have c22b1 : (a0_1 != a1_1) = true := bne_iff_ne.mpr c22
  obtain rfl := Option.some.inj H
  have hnb26 := NB285_286.out
  have hnc26 := NB286_285.out
  have hcz27_0 : wc.cell? ⟨gb285, 0, none⟩ = some (.int .i64 a0_0) := (bC BK285.out 0).trans rfl
  have hcz27_1 : wc.cell? ⟨gb285, 1, none⟩ = some (.int .i64 a0_1) := (bC BK285.out 1).trans rfl
  have hcz27_2 : wc.cell? ⟨gb285, 2, none⟩ = some (.string a0_2) := (bC BK285.out 2).trans rfl
  have hfz27_0 := bF BK285.out 0
  have hfz27_1 := bF BK285.out 1
  have hfz27_2 := bF BK285.out 2
  have hcz28_0 : wc.cell? ⟨gb286, 0, none⟩ = some (.int .i64 a1_0) := (bC BK286.out 0).trans rfl
  have hcz28_1 : wc.cell? ⟨gb286, 1, none⟩ = some (.int .i64 a1_1) := (bC BK286.out 1).trans rfl
  have hcz28_2 : wc.cell? ⟨gb286, 2, none⟩ = some (.string a1_2) := (bC BK286.out 2).trans rfl
  have hfz28_0 := bF BK286.out 0
  have hfz28_1 := bF BK286.out 1
  have hfz28_2 := bF BK286.out 2
  go_wp2
  go_ret
  exact ⟨by first | rfl | (simp [errW_none, errW_some] <;> rfl) | (simp [*, errW_none, errW_some] <;> rfl), by repeat (first | (with_reducible first | exact HB.out | apply wA | apply wN | apply wD | refine wS ?_ GE285.out | refine wS ?_ GE286.out) | exact HB.out)⟩

end Go.Proofs.Ytajlomhnednghaa.B
namespace Go.Proofs.Ytajlomhnednghaa.B
open Go.RowKit Go.Proofs.YtajlomhnednghaaW.PrintWords Go.Proofs.YtajlomhnednghaaW.PrintLast Go.Proofs.YtajlomhnednghaaW.PrintMore
attribute [local go_sem] max2_int min2_int max_two min_two max_three min_three max_four min_four   -- for this text's walks alone
set_option linter.unusedVariables false
set_option linter.unusedSimpArgs false

/-! ### impl_divide: function 94 -/
def impl_divide.f (a0 : Int) (a1_0 : Int) (a1_1 : Int) (a1_2 : ByteArray) (a2_0 : Int) (a2_1 : Int) (a2_2 : ByteArray) : Option (Int) := (impl_signed.f a1_0).bind fun t291 => (if t291 = true then (if a2_1 = (-1) then (if a0 = 14 then (some (IntKind.u64.wrap (-(IntKind.u64.wrap (a1_1))))) else (some 0)) else (if a0 = 14 then (if a2_1 = 0 then (none) else (some (IntKind.u64.wrap (wrap64 (Int.tdiv a1_1 a2_1))))) else (if a2_1 = 0 then (none) else (some (IntKind.u64.wrap (Int.tmod a1_1 a2_1)))))) else (if a0 = 14 then (if (IntKind.u64.wrap (a2_1)) = 0 then (none) else (some (IntKind.u64.wrap (Int.tdiv (IntKind.u64.wrap (a1_1)) (IntKind.u64.wrap (a2_1)))))) else (if (IntKind.u64.wrap (a2_1)) = 0 then (none) else (some (Int.tmod (IntKind.u64.wrap (a1_1)) (IntKind.u64.wrap (a2_1)))))))
set_option maxHeartbeats 8000000 in
set_option maxRecDepth 100000 in
theorem impl_divide.calls (a0 : Int) (a1_0 : Int) (a1_1 : Int) (a1_2 : ByteArray) (a2_0 : Int) (a2_1 : Int) (a2_2 : ByteArray) (r : Int) (w : World) (h : impl_divide.f a0 a1_0 a1_1 a1_2 a2_0 a2_1 a2_2 = some r) :
    Calls Try.prog 94 #[.int .i64 a0, .agg #[.int .i64 a1_0, .int .i64 a1_1, .string a1_2], .agg #[.int .i64 a2_0, .int .i64 a2_1, .string a2_2]] w fun e w' => e = .returned (.int .u64 r) ∧ Below w.heap.size w w' := by
  have hu34 := Try.underlying34
  have HB := mk0 (Below.refl w.heap.size w)
  have H : ((impl_signed.f a1_0).bind fun t291 => (if t291 = true then (if a2_1 = (-1) then (if a0 = 14 then (some (IntKind.u64.wrap (-(IntKind.u64.wrap (a1_1))))) else (some 0)) else (if a0 = 14 then (if a2_1 = 0 then (none) else (some (IntKind.u64.wrap (wrap64 (Int.tdiv a1_1 a2_1))))) else (if a2_1 = 0 then (none) else (some (IntKind.u64.wrap (Int.tmod a1_1 a2_1)))))) else (if a0 = 14 then (if (IntKind.u64.wrap (a2_1)) = 0 then (none) else (some (IntKind.u64.wrap (Int.tdiv (IntKind.u64.wrap (a1_1)) (IntKind.u64.wrap (a2_1)))))) else (if (IntKind.u64.wrap (a2_1)) = 0 then (none) else (some (Int.tmod (IntKind.u64.wrap (a1_1)) (IntKind.u64.wrap (a2_1)))))))) = some r := h
  clear h
  replace H := Option.bind_eq_some_iff.mp H
  obtain ⟨t291, A40, H⟩ := H
  replace H : (if t291 = true then (if a2_1 = (-1) then (if a0 = 14 then (some (IntKind.u64.wrap (-(IntKind.u64.wrap (a1_1))))) else (some 0)) else (if a0 = 14 then (if a2_1 = 0 then (none) else (some (IntKind.u64.wrap (wrap64 (Int.tdiv a1_1 a2_1))))) else (if a2_1 = 0 then (none) else (some (IntKind.u64.wrap (Int.tmod a1_1 a2_1)))))) else (if a0 = 14 then (if (IntKind.u64.wrap (a2_1)) = 0 then (none) else (some (IntKind.u64.wrap (Int.tdiv (IntKind.u64.wrap (a1_1)) (IntKind.u64.wrap (a2_1)))))) else (if (IntKind.u64.wrap (a2_1)) = 0 then (none) else (some (Int.tmod (IntKind.u64.wrap (a1_1)) (IntKind.u64.wrap (a2_1))))))) = some r := H
  have A4 := mk0 A40
  clear A40
  by_cases c5 : t291 = true
  · subst c5
    have H1 : (if a2_1 = (-1) then (if a0 = 14 then (some (IntKind.u64.wrap (-(IntKind.u64.wrap (a1_1))))) else (some 0)) else (if a0 = 14 then (if a2_1 = 0 then (none) else (some (IntKind.u64.wrap (wrap64 (Int.tdiv a1_1 a2_1))))) else (if a2_1 = 0 then (none) else (some (IntKind.u64.wrap (Int.tmod a1_1 a2_1)))))) = some r := by rw [if_pos rfl] at H; exact H
    clear H
    have H := H1
    clear H1
    by_cases c6 : a2_1 = (-1)
    · rw [if_pos c6] at H
      have c6b0 : (a2_1 == (-1)) = true := beq_iff_eq.mpr c6
      have c6b1 : (a2_1 != (-1)) = false := bne_eq_false_iff_eq.mpr c6
      clear c6
      by_cases c7 : a0 = 14
      · rw [if_pos c7] at H
        have c7b0 : (a0 == 14) = true := beq_iff_eq.mpr c7
        have c7b1 : (a0 != 14) = false := bne_eq_false_iff_eq.mpr c7
        clear c7
        obtain rfl := Option.some.inj H
        go_enter Try.func94, Try.ntmps94
        go_wp2_with (first | ((with_reducible refine gate_dst (N := 4) rfl ?_); refine box_event ?hg (N := 4) ?hd (cs := #[.int .i64 a1_0, .int .i64 a1_1, .string a1_2]) (t := 34) ?hr ?_; (case hd => rfl); (case hg => rfl); (case hr => first | (go_simp; done) | (go_simp; rfl)); intro gb289 hg w8 hbox hb; have n0_ := mk0 (below_step (by repeat (first | (with_reducible first | exact HB.out | apply wA | apply wN | apply wD) | exact HB.out)) hb); have n1_ := mk0 (hbox); have n2_ := mk0 ((by rw [hg]; exact (below_size (by repeat (first | (with_reducible first | exact HB.out | apply wA | apply wN | apply wD) | exact HB.out))) : w.heap.size ≤ gb289)); have n3_ := mk0 ((by rw [hg]; exact (below_size (by repeat (first | (with_reducible first | exact HB.out | apply wA | apply wN | apply wD) | exact HB.out))) : w.heap.size ≤ gb289)); clear HB; have HB := n0_; have BK289 := n1_; have GW289 := n2_; have GE289 := n3_; clear n0_ n1_ n2_ n3_; clear hb hbox hg) | ((with_reducible refine gate_dst (N := 5) rfl ?_); refine box_event ?hg (N := 5) ?hd (cs := #[.int .i64 a2_0, .int .i64 a2_1, .string a2_2]) (t := 34) ?hr ?_; (case hd => rfl); (case hg => rfl); (case hr => first | (go_simp; done) | (go_simp; rfl)); intro gb290 hg w9 hbox hb; have n0_ := mk0 (bB (g := gb289) (o := .cells #[.int .i64 a1_0, .int .i64 a1_1, .string a1_2] 34 (0, 0)) (by (with_reducible repeat (first | apply bN | apply bD | apply bA)); exact BK289.out) hb); have n1_ := mk0 (below_step (by repeat (first | (with_reducible first | exact HB.out | apply wA | apply wN | apply wD | refine wS ?_ GE289.out) | exact HB.out)) hb); have n2_ := mk0 (hbox); have n3_ := mk0 ((by rw [hg]; exact (below_size (by repeat (first | (with_reducible first | exact HB.out | apply wA | apply wN | apply wD | refine wS ?_ GE289.out) | exact HB.out))) : w.heap.size ≤ gb290)); have n4_ := mk0 ((by rw [hg]; exact (below_size (by repeat (first | (with_reducible first | exact HB.out | apply wA | apply wN | apply wD | refine wS ?_ GE289.out) | exact HB.out))) : w.heap.size ≤ gb290)); have n5_ := mk0 ((by rw [hg]; exact Nat.ne_of_lt (blk_lt (g := gb289) (o := .cells #[.int .i64 a1_0, .int .i64 a1_1, .string a1_2] 34 (0, 0)) (by (with_reducible repeat (first | apply bN | apply bD | apply bA)); exact BK289.out)) : gb289 ≠ gb290)); have n6_ := mk0 ((by rw [hg]; exact Nat.ne_of_gt (blk_lt (g := gb289) (o := .cells #[.int .i64 a1_0, .int .i64 a1_1, .string a1_2] 34 (0, 0)) (by (with_reducible repeat (first | apply bN | apply bD | apply bA)); exact BK289.out)) : gb290 ≠ gb289)); clear BK289; clear HB; have BK289 := n0_; have HB := n1_; have BK290 := n2_; have GW290 := n3_; have GE290 := n4_; have NB289_290 := n5_; have NB290_289 := n6_; clear n0_ n1_ n2_ n3_ n4_ n5_ n6_; clear hb hbox hg; have hnb10 := NB289_290.out; have hnc10 := NB290_289.out; have hcz11_0 : w9.cell? ⟨gb289, 0, none⟩ = some (.int .i64 a1_0) := (bC BK289.out 0).trans rfl; have hcz11_1 : w9.cell? ⟨gb289, 1, none⟩ = some (.int .i64 a1_1) := (bC BK289.out 1).trans rfl; have hcz11_2 : w9.cell? ⟨gb289, 2, none⟩ = some (.string a1_2) := (bC BK289.out 2).trans rfl; have hfz11_0 := bF BK289.out 0; have hfz11_1 := bF BK289.out 1; have hfz11_2 := bF BK289.out 2) | ((with_reducible refine gate_callee (f := 104) rfl ?_); refine goesL_ (some 9) rfl rfl Try.func104 (by kernel_rfl) rfl #[.int .i64 a1_0] rfl (by (try simp only [List.map_toArray, List.map_cons, List.map_nil]); first | done | rfl | (simp only [List.length_drop, List.length_take]; rfl)) ?_; (with_reducible refine (impl_signed.calls a1_0 true _ A4.out).mono ?_); rintro e w' ⟨rfl, ⟨nd, rfl⟩⟩; refine ⟨_, rfl, ?_⟩; have hcz12_0 : w9.cell? ⟨gb290, 0, none⟩ = some (.int .i64 a2_0) := (bC BK290.out 0).trans rfl; have hcz12_1 : w9.cell? ⟨gb290, 1, none⟩ = some (.int .i64 a2_1) := (bC BK290.out 1).trans rfl; have hcz12_2 : w9.cell? ⟨gb290, 2, none⟩ = some (.string a2_2) := (bC BK290.out 2).trans rfl; have hfz12_0 := bF BK290.out 0; have hfz12_1 := bF BK290.out 1; have hfz12_2 := bF BK290.out 2))
        go_ret
        exact ⟨by first | rfl | (simp [errW_none, errW_some] <;> rfl) | (simp [*, errW_none, errW_some] <;> rfl), by repeat (first | (with_reducible first | exact HB.out | apply wA | apply wN | apply wD | refine wS ?_ GE289.out | refine wS ?_ GE290.out) | exact HB.out)⟩
      rw [if_neg c7] at H
      have c7b0 : (a0 == 14) = false := beq_eq_false_iff_ne.mpr c7
      have c7b1 : (a0 != 14) = true := bne_iff_ne.mpr c7
      obtain rfl := Option.some.inj H
      go_enter Try.func94, Try.ntmps94
      go_wp2_with (first | ((with_reducible refine gate_dst (N := 4) rfl ?_); refine box_event ?hg (N := 4) ?hd (cs := #[.int .i64 a1_0, .int .i64 a1_1, .string a1_2]) (t := 34) ?hr ?_; (case hd => rfl); (case hg => rfl); (case hr => first | (go_simp; done) | (go_simp; rfl)); intro gb289 hg w13 hbox hb; have n0_ := mk0 (below_step (by repeat (first | (with_reducible first | exact HB.out | apply wA | apply wN | apply wD) | exact HB.out)) hb); have n1_ := mk0 (hbox); have n2_ := mk0 ((by rw [hg]; exact (below_size (by repeat (first | (with_reducible first | exact HB.out | apply wA | apply wN | apply wD) | exact HB.out))) : w.heap.size ≤ gb289)); have n3_ := mk0 ((by rw [hg]; exact (below_size (by repeat (first | (with_reducible first | exact HB.out | apply wA | apply wN | apply wD) | exact HB.out))) : w.heap.size ≤ gb289)); clear HB; have HB := n0_; have BK289 := n1_; have GW289 := n2_; have GE289 := n3_; clear n0_ n1_ n2_ n3_; clear hb hbox hg) | ((with_reducible refine gate_dst (N := 5) rfl ?_); refine box_event ?hg (N := 5) ?hd (cs := #[.int .i64 a2_0, .int .i64 a2_1, .string a2_2]) (t := 34) ?hr ?_; (case hd => rfl); (case hg => rfl); (case hr => first | (go_simp; done) | (go_simp; rfl)); intro gb290 hg w14 hbox hb; have n0_ := mk0 (bB (g := gb289) (o := .cells #[.int .i64 a1_0, .int .i64 a1_1, .string a1_2] 34 (0, 0)) (by (with_reducible repeat (first | apply bN | apply bD | apply bA)); exact BK289.out) hb); have n1_ := mk0 (below_step (by repeat (first | (with_reducible first | exact HB.out | apply wA | apply wN | apply wD | refine wS ?_ GE289.out) | exact HB.out)) hb); have n2_ := mk0 (hbox); have n3_ := mk0 ((by rw [hg]; exact (below_size (by repeat (first | (with_reducible first | exact HB.out | apply wA | apply wN | apply wD | refine wS ?_ GE289.out) | exact HB.out))) : w.heap.size ≤ gb290)); have n4_ := mk0 ((by rw [hg]; exact (below_size (by repeat (first | (with_reducible first | exact HB.out | apply wA | apply wN | apply wD | refine wS ?_ GE289.out) | exact HB.out))) : w.heap.size ≤ gb290)); have n5_ := mk0 ((by rw [hg]; exact Nat.ne_of_lt (blk_lt (g := gb289) (o := .cells #[.int .i64 a1_0, .int .i64 a1_1, .string a1_2] 34 (0, 0)) (by (with_reducible repeat (first | apply bN | apply bD | apply bA)); exact BK289.out)) : gb289 ≠ gb290)); have n6_ := mk0 ((by rw [hg]; exact Nat.ne_of_gt (blk_lt (g := gb289) (o := .cells #[.int .i64 a1_0, .int .i64 a1_1, .string a1_2] 34 (0, 0)) (by (with_reducible repeat (first | apply bN | apply bD | apply bA)); exact BK289.out)) : gb290 ≠ gb289)); clear BK289; clear HB; have BK289 := n0_; have HB := n1_; have BK290 := n2_; have GW290 := n3_; have GE290 := n4_; have NB289_290 := n5_; have NB290_289 := n6_; clear n0_ n1_ n2_ n3_ n4_ n5_ n6_; clear hb hbox hg; have hnb15 := NB289_290.out; have hnc15 := NB290_289.out; have hcz16_0 : w14.cell? ⟨gb289, 0, none⟩ = some (.int .i64 a1_0) := (bC BK289.out 0).trans rfl; have hcz16_1 : w14.cell? ⟨gb289, 1, none⟩ = some (.int .i64 a1_1) := (bC BK289.out 1).trans rfl; have hcz16_2 : w14.cell? ⟨gb289, 2, none⟩ = some (.string a1_2) := (bC BK289.out 2).trans rfl; have hfz16_0 := bF BK289.out 0; have hfz16_1 := bF BK289.out 1; have hfz16_2 := bF BK289.out 2) | ((with_reducible refine gate_callee (f := 104) rfl ?_); refine goesL_ (some 9) rfl rfl Try.func104 (by kernel_rfl) rfl #[.int .i64 a1_0] rfl (by (try simp only [List.map_toArray, List.map_cons, List.map_nil]); first | done | rfl | (simp only [List.length_drop, List.length_take]; rfl)) ?_; (with_reducible refine (impl_signed.calls a1_0 true _ A4.out).mono ?_); rintro e w' ⟨rfl, ⟨nd, rfl⟩⟩; refine ⟨_, rfl, ?_⟩; have hcz17_0 : w14.cell? ⟨gb290, 0, none⟩ = some (.int .i64 a2_0) := (bC BK290.out 0).trans rfl; have hcz17_1 : w14.cell? ⟨gb290, 1, none⟩ = some (.int .i64 a2_1) := (bC BK290.out 1).trans rfl; have hcz17_2 : w14.cell? ⟨gb290, 2, none⟩ = some (.string a2_2) := (bC BK290.out 2).trans rfl; have hfz17_0 := bF BK290.out 0; have hfz17_1 := bF BK290.out 1; have hfz17_2 := bF BK290.out 2))
      go_ret
      exact ⟨by first | rfl | (simp [errW_none, errW_some] <;> rfl) | (simp [*, errW_none, errW_some] <;> rfl), by repeat (first | (with_reducible first | exact HB.out | apply wA | apply wN | apply wD | refine wS ?_ GE289.out | refine wS ?_ GE290.out) | exact HB.out)⟩
    rw [if_neg c6] at H
    have c6b0 : (a2_1 == (-1)) = false := beq_eq_false_iff_ne.mpr c6
    have c6b1 : (a2_1 != (-1)) = true := bne_iff_ne.mpr c6
    by_cases c18 : a0 = 14
    · rw [if_pos c18] at H
      have c18b0 : (a0 == 14) = true := beq_iff_eq.mpr c18
      have c18b1 : (a0 != 14) = false := bne_eq_false_iff_eq.mpr c18
      clear c18
      by_cases c19 : a2_1 = 0
      · rw [if_pos c19] at H
        exact absurd H (by simp)
      rw [if_neg c19] at H
      have c19b0 : (a2_1 == 0) = false := beq_eq_false_iff_ne.mpr c19
      have c19b1 : (a2_1 != 0) = true := bne_iff_ne.mpr c19
      obtain rfl := Option.some.inj H
      go_enter Try.func94, Try.ntmps94
      go_wp2_with (first | ((with_reducible refine gate_dst (N := 4) rfl ?_); refine box_event ?hg (N := 4) ?hd (cs := #[.int .i64 a1_0, .int .i64 a1_1, .string a1_2]) (t := 34) ?hr ?_; (case hd => rfl); (case hg => rfl); (case hr => first | (go_simp; done) | (go_simp; rfl)); intro gb289 hg w20 hbox hb; have n0_ := mk0 (below_step (by repeat (first | (with_reducible first | exact HB.out | apply wA | apply wN | apply wD) | exact HB.out)) hb); have n1_ := mk0 (hbox); have n2_ := mk0 ((by rw [hg]; exact (below_size (by repeat (first | (with_reducible first | exact HB.out | apply wA | apply wN | apply wD) | exact HB.out))) : w.heap.size ≤ gb289)); have n3_ := mk0 ((by rw [hg]; exact (below_size (by repeat (first | (with_reducible first | exact HB.out | apply wA | apply wN | apply wD) | exact HB.out))) : w.heap.size ≤ gb289)); clear HB; have HB := n0_; have BK289 := n1_; have GW289 := n2_; have GE289 := n3_; clear n0_ n1_ n2_ n3_; clear hb hbox hg) | ((with_reducible refine gate_dst (N := 5) rfl ?_); refine box_event ?hg (N := 5) ?hd (cs := #[.int .i64 a2_0, .int .i64 a2_1, .string a2_2]) (t := 34) ?hr ?_; (case hd => rfl); (case hg => rfl); (case hr => first | (go_simp; done) | (go_simp; rfl)); intro gb290 hg w21 hbox hb; have n0_ := mk0 (bB (g := gb289) (o := .cells #[.int .i64 a1_0, .int .i64 a1_1, .string a1_2] 34 (0, 0)) (by (with_reducible repeat (first | apply bN | apply bD | apply bA)); exact BK289.out) hb); have n1_ := mk0 (below_step (by repeat (first | (with_reducible first | exact HB.out | apply wA | apply wN | apply wD | refine wS ?_ GE289.out) | exact HB.out)) hb); have n2_ := mk0 (hbox); have n3_ := mk0 ((by rw [hg]; exact (below_size (by repeat (first | (with_reducible first | exact HB.out | apply wA | apply wN | apply wD | refine wS ?_ GE289.out) | exact HB.out))) : w.heap.size ≤ gb290)); have n4_ := mk0 ((by rw [hg]; exact (below_size (by repeat (first | (with_reducible first | exact HB.out | apply wA | apply wN | apply wD | refine wS ?_ GE289.out) | exact HB.out))) : w.heap.size ≤ gb290)); have n5_ := mk0 ((by rw [hg]; exact Nat.ne_of_lt (blk_lt (g := gb289) (o := .cells #[.int .i64 a1_0, .int .i64 a1_1, .string a1_2] 34 (0, 0)) (by (with_reducible repeat (first | apply bN | apply bD | apply bA)); exact BK289.out)) : gb289 ≠ gb290)); have n6_ := mk0 ((by rw [hg]; exact Nat.ne_of_gt (blk_lt (g := gb289) (o := .cells #[.int .i64 a1_0, .int .i64 a1_1, .string a1_2] 34 (0, 0)) (by (with_reducible repeat (first | apply bN | apply bD | apply bA)); exact BK289.out)) : gb290 ≠ gb289)); clear BK289; clear HB; have BK289 := n0_; have HB := n1_; have BK290 := n2_; have GW290 := n3_; have GE290 := n4_; have NB289_290 := n5_; have NB290_289 := n6_; clear n0_ n1_ n2_ n3_ n4_ n5_ n6_; clear hb hbox hg; have hnb22 := NB289_290.out; have hnc22 := NB290_289.out; have hcz23_0 : w21.cell? ⟨gb289, 0, none⟩ = some (.int .i64 a1_0) := (bC BK289.out 0).trans rfl; have hcz23_1 : w21.cell? ⟨gb289, 1, none⟩ = some (.int .i64 a1_1) := (bC BK289.out 1).trans rfl; have hcz23_2 : w21.cell? ⟨gb289, 2, none⟩ = some (.string a1_2) := (bC BK289.out 2).trans rfl; have hfz23_0 := bF BK289.out 0; have hfz23_1 := bF BK289.out 1; have hfz23_2 := bF BK289.out 2) | ((with_reducible refine gate_callee (f := 104) rfl ?_); refine goesL_ (some 9) rfl rfl Try.func104 (by kernel_rfl) rfl #[.int .i64 a1_0] rfl (by (try simp only [List.map_toArray, List.map_cons, List.map_nil]); first | done | rfl | (simp only [List.length_drop, List.length_take]; rfl)) ?_; (with_reducible refine (impl_signed.calls a1_0 true _ A4.out).mono ?_); rintro e w' ⟨rfl, ⟨nd, rfl⟩⟩; refine ⟨_, rfl, ?_⟩; have hcz24_0 : w21.cell? ⟨gb290, 0, none⟩ = some (.int .i64 a2_0) := (bC BK290.out 0).trans rfl; have hcz24_1 : w21.cell? ⟨gb290, 1, none⟩ = some (.int .i64 a2_1) := (bC BK290.out 1).trans rfl; have hcz24_2 : w21.cell? ⟨gb290, 2, none⟩ = some (.string a2_2) := (bC BK290.out 2).trans rfl; have hfz24_0 := bF BK290.out 0; have hfz24_1 := bF BK290.out 1; have hfz24_2 := bF BK290.out 2))
      go_ret
      exact ⟨by first | rfl | (simp [errW_none, errW_some] <;> rfl) | (simp [*, errW_none, errW_some] <;> rfl), by repeat (first | (with_reducible first | exact HB.out | apply wA | apply wN | apply wD | refine wS ?_ GE289.out | refine wS ?_ GE290.out) | exact HB.out)⟩
    rw [if_neg c18] at H
    have c18b0 : (a0 == 14) = false := beq_eq_false_iff_ne.mpr c18
    have c18b1 : (a0 != 14) = true := bne_iff_ne.mpr c18
    by_cases c25 : a2_1 = 0
    · rw [if_pos c25] at H
      exact absurd H (by simp)
    rw [if_neg c25] at H
    have c25b0 : (a2_1 == 0) = false := beq_eq_false_iff_ne.mpr c25
    have c25b1 : (a2_1 != 0) = true := bne_iff_ne.mpr c25
    obtain rfl := Option.some.inj H
    go_enter Try.func94, Try.ntmps94
    go_wp2_with (first | ((with_reducible refine gate_dst (N := 4) rfl ?_); refine box_event ?hg (N := 4) ?hd (cs := #[.int .i64 a1_0, .int .i64 a1_1, .string a1_2]) (t := 34) ?hr ?_; (case hd => rfl); (case hg => rfl); (case hr => first | (go_simp; done) | (go_simp; rfl)); intro gb289 hg w26 hbox hb; have n0_ := mk0 (below_step (by repeat (first | (with_reducible first | exact HB.out | apply wA | apply wN | apply wD) | exact HB.out)) hb); have n1_ := mk0 (hbox); have n2_ := mk0 ((by rw [hg]; exact (below_size (by repeat (first | (with_reducible first | exact HB.out | apply wA | apply wN | apply wD) | exact HB.out))) : w.heap.size ≤ gb289)); have n3_ := mk0 ((by rw [hg]; exact (below_size (by repeat (first | (with_reducible first | exact HB.out | apply wA | apply wN | apply wD) | exact HB.out))) : w.heap.size ≤ gb289)); clear HB; have HB := n0_; have BK289 := n1_; have GW289 := n2_; have GE289 := n3_; clear n0_ n1_ n2_ n3_; clear hb hbox hg) | ((with_reducible refine gate_dst (N := 5) rfl ?_); refine box_event ?hg (N := 5) ?hd (cs := #[.int .i64 a2_0, .int .i64 a2_1, .string a2_2]) (t := 34) ?hr ?_; (case hd => rfl); (case hg => rfl); (case hr => first | (go_simp; done) | (go_simp; rfl)); intro gb290 hg w27 hbox hb; have n0_ := mk0 (bB (g := gb289) (o := .cells #[.int .i64 a1_0, .int .i64 a1_1, .string a1_2] 34 (0, 0)) (by (with_reducible repeat (first | apply bN | apply bD | apply bA)); exact BK289.out) hb); have n1_ := mk0 (below_step (by repeat (first | (with_reducible first | exact HB.out | apply wA | apply wN | apply wD | refine wS ?_ GE289.out) | exact HB.out)) hb); have n2_ := mk0 (hbox); have n3_ := mk0 ((by rw [hg]; exact (below_size (by repeat (first | (with_reducible first | exact HB.out | apply wA | apply wN | apply wD | refine wS ?_ GE289.out) | exact HB.out))) : w.heap.size ≤ gb290)); have n4_ := mk0 ((by rw [hg]; exact (below_size (by repeat (first | (with_reducible first | exact HB.out | apply wA | apply wN | apply wD | refine wS ?_ GE289.out) | exact HB.out))) : w.heap.size ≤ gb290)); have n5_ := mk0 ((by rw [hg]; exact Nat.ne_of_lt (blk_lt (g := gb289) (o := .cells #[.int .i64 a1_0, .int .i64 a1_1, .string a1_2] 34 (0, 0)) (by (with_reducible repeat (first | apply bN | apply bD | apply bA)); exact BK289.out)) : gb289 ≠ gb290)); have n6_ := mk0 ((by rw [hg]; exact Nat.ne_of_gt (blk_lt (g := gb289) (o := .cells #[.int .i64 a1_0, .int .i64 a1_1, .string a1_2] 34 (0, 0)) (by (with_reducible repeat (first | apply bN | apply bD | apply bA)); exact BK289.out)) : gb290 ≠ gb289)); clear BK289; clear HB; have BK289 := n0_; have HB := n1_; have BK290 := n2_; have GW290 := n3_; have GE290 := n4_; have NB289_290 := n5_; have NB290_289 := n6_; clear n0_ n1_ n2_ n3_ n4_ n5_ n6_; clear hb hbox hg; have hnb28 := NB289_290.out; have hnc28 := NB290_289.out; have hcz29_0 : w27.cell? ⟨gb289, 0, none⟩ = some (.int .i64 a1_0) := (bC BK289.out 0).trans rfl; have hcz29_1 : w27.cell? ⟨gb289, 1, none⟩ = some (.int .i64 a1_1) := (bC BK289.out 1).trans rfl; have hcz29_2 : w27.cell? ⟨gb289, 2, none⟩ = some (.string a1_2) := (bC BK289.out 2).trans rfl; have hfz29_0 := bF BK289.out 0; have hfz29_1 := bF BK289.out 1; have hfz29_2 := bF BK289.out 2) | ((with_reducible refine gate_callee (f := 104) rfl ?_); refine goesL_ (some 9) rfl rfl Try.func104 (by kernel_rfl) rfl #[.int .i64 a1_0] rfl (by (try simp only [List.map_toArray, List.map_cons, List.map_nil]); first | done | rfl | (simp only [List.length_drop, List.length_take]; rfl)) ?_; (with_reducible refine (impl_signed.calls a1_0 true _ A4.out).mono ?_); rintro e w' ⟨rfl, ⟨nd, rfl⟩⟩; refine ⟨_, rfl, ?_⟩; have hcz30_0 : w27.cell? ⟨gb290, 0, none⟩ = some (.int .i64 a2_0) := (bC BK290.out 0).trans rfl; have hcz30_1 : w27.cell? ⟨gb290, 1, none⟩ = some (.int .i64 a2_1) := (bC BK290.out 1).trans rfl; have hcz30_2 : w27.cell? ⟨gb290, 2, none⟩ = some (.string a2_2) := (bC BK290.out 2).trans rfl; have hfz30_0 := bF BK290.out 0; have hfz30_1 := bF BK290.out 1; have hfz30_2 := bF BK290.out 2))
    go_ret
    exact ⟨by first | rfl | (simp [errW_none, errW_some] <;> rfl) | (simp [*, errW_none, errW_some] <;> rfl), by repeat (first | (with_reducible first | exact HB.out | apply wA | apply wN | apply wD | refine wS ?_ GE289.out | refine wS ?_ GE290.out) | exact HB.out)⟩
  replace c5 := Bool.eq_false_iff.mpr c5
  subst c5
  have H1 : (if a0 = 14 then (if (IntKind.u64.wrap (a2_1)) = 0 then (none) else (some (IntKind.u64.wrap (Int.tdiv (IntKind.u64.wrap (a1_1)) (IntKind.u64.wrap (a2_1)))))) else (if (IntKind.u64.wrap (a2_1)) = 0 then (none) else (some (Int.tmod (IntKind.u64.wrap (a1_1)) (IntKind.u64.wrap (a2_1)))))) = some r := by rw [if_neg (show ¬ (false = true) by decide)] at H; exact H
  clear H
  have H := H1
  clear H1
  by_cases c31 : a0 = 14
  · rw [if_pos c31] at H
    have c31b0 : (a0 == 14) = true := beq_iff_eq.mpr c31
    have c31b1 : (a0 != 14) = false := bne_eq_false_iff_eq.mpr c31
    clear c31
    by_cases c32 : (IntKind.u64.wrap (a2_1)) = 0
    · rw [if_pos c32] at H
      exact absurd H (by simp)
    rw [if_neg c32] at H
    have c32b0 : ((IntKind.u64.wrap (a2_1)) == 0) = false := beq_eq_false_iff_ne.mpr c32
    have c32b1 : ((IntKind.u64.wrap (a2_1)) != 0) = true := bne_iff_ne.mpr c32
    obtain rfl := Option.some.inj H
    go_enter Try.func94, Try.ntmps94
    go_wp2_with (first | ((with_reducible refine gate_dst (N := 4) rfl ?_); refine box_event ?hg (N := 4) ?hd (cs := #[.int .i64 a1_0, .int .i64 a1_1, .string a1_2]) (t := 34) ?hr ?_; (case hd => rfl); (case hg => rfl); (case hr => first | (go_simp; done) | (go_simp; rfl)); intro gb289 hg w33 hbox hb; have n0_ := mk0 (below_step (by repeat (first | (with_reducible first | exact HB.out | apply wA | apply wN | apply wD) | exact HB.out)) hb); have n1_ := mk0 (hbox); have n2_ := mk0 ((by rw [hg]; exact (below_size (by repeat (first | (with_reducible first | exact HB.out | apply wA | apply wN | apply wD) | exact HB.out))) : w.heap.size ≤ gb289)); have n3_ := mk0 ((by rw [hg]; exact (below_size (by repeat (first | (with_reducible first | exact HB.out | apply wA | apply wN | apply wD) | exact HB.out))) : w.heap.size ≤ gb289)); clear HB; have HB := n0_; have BK289 := n1_; have GW289 := n2_; have GE289 := n3_; clear n0_ n1_ n2_ n3_; clear hb hbox hg) | ((with_reducible refine gate_dst (N := 5) rfl ?_); refine box_event ?hg (N := 5) ?hd (cs := #[.int .i64 a2_0, .int .i64 a2_1, .string a2_2]) (t := 34) ?hr ?_; (case hd => rfl); (case hg => rfl); (case hr => first | (go_simp; done) | (go_simp; rfl)); intro gb290 hg w34 hbox hb; have n0_ := mk0 (bB (g := gb289) (o := .cells #[.int .i64 a1_0, .int .i64 a1_1, .string a1_2] 34 (0, 0)) (by (with_reducible repeat (first | apply bN | apply bD | apply bA)); exact BK289.out) hb); have n1_ := mk0 (below_step (by repeat (first | (with_reducible first | exact HB.out | apply wA | apply wN | apply wD | refine wS ?_ GE289.out) | exact HB.out)) hb); have n2_ := mk0 (hbox); have n3_ := mk0 ((by rw [hg]; exact (below_size (by repeat (first | (with_reducible first | exact HB.out | apply wA | apply wN | apply wD | refine wS ?_ GE289.out) | exact HB.out))) : w.heap.size ≤ gb290)); have n4_ := mk0 ((by rw [hg]; exact (below_size (by repeat (first | (with_reducible first | exact HB.out | apply wA | apply wN | apply wD | refine wS ?_ GE289.out) | exact HB.out))) : w.heap.size ≤ gb290)); have n5_ := mk0 ((by rw [hg]; exact Nat.ne_of_lt (blk_lt (g := gb289) (o := .cells #[.int .i64 a1_0, .int .i64 a1_1, .string a1_2] 34 (0, 0)) (by (with_reducible repeat (first | apply bN | apply bD | apply bA)); exact BK289.out)) : gb289 ≠ gb290)); have n6_ := mk0 ((by rw [hg]; exact Nat.ne_of_gt (blk_lt (g := gb289) (o := .cells #[.int .i64 a1_0, .int .i64 a1_1, .string a1_2] 34 (0, 0)) (by (with_reducible repeat (first | apply bN | apply bD | apply bA)); exact BK289.out)) : gb290 ≠ gb289)); clear BK289; clear HB; have BK289 := n0_; have HB := n1_; have BK290 := n2_; have GW290 := n3_; have GE290 := n4_; have NB289_290 := n5_; have NB290_289 := n6_; clear n0_ n1_ n2_ n3_ n4_ n5_ n6_; clear hb hbox hg; have hnb35 := NB289_290.out; have hnc35 := NB290_289.out; have hcz36_0 : w34.cell? ⟨gb289, 0, none⟩ = some (.int .i64 a1_0) := (bC BK289.out 0).trans rfl; have hcz36_1 : w34.cell? ⟨gb289, 1, none⟩ = some (.int .i64 a1_1) := (bC BK289.out 1).trans rfl; have hcz36_2 : w34.cell? ⟨gb289, 2, none⟩ = some (.string a1_2) := (bC BK289.out 2).trans rfl; have hfz36_0 := bF BK289.out 0; have hfz36_1 := bF BK289.out 1; have hfz36_2 := bF BK289.out 2) | ((with_reducible refine gate_callee (f := 104) rfl ?_); refine goesL_ (some 9) rfl rfl Try.func104 (by kernel_rfl) rfl #[.int .i64 a1_0] rfl (by (try simp only [List.map_toArray, List.map_cons, List.map_nil]); first | done | rfl | (simp only [List.length_drop, List.length_take]; rfl)) ?_; (with_reducible refine (impl_signed.calls a1_0 false _ A4.out).mono ?_); rintro e w' ⟨rfl, ⟨nd, rfl⟩⟩; refine ⟨_, rfl, ?_⟩; have hcz37_0 : w34.cell? ⟨gb290, 0, none⟩ = some (.int .i64 a2_0) := (bC BK290.out 0).trans rfl; have hcz37_1 : w34.cell? ⟨gb290, 1, none⟩ = some (.int .i64 a2_1) := (bC BK290.out 1).trans rfl; have hcz37_2 : w34.cell? ⟨gb290, 2, none⟩ = some (.string a2_2) := (bC BK290.out 2).trans rfl; have hfz37_0 := bF BK290.out 0; have hfz37_1 := bF BK290.out 1; have hfz37_2 := bF BK290.out 2))
    go_ret
    exact ⟨by first | rfl | (simp [errW_none, errW_some] <;> rfl) | (simp [*, errW_none, errW_some] <;> rfl), by repeat (first | (with_reducible first | exact HB.out | apply wA | apply wN | apply wD | refine wS ?_ GE289.out | refine wS ?_ GE290.out) | exact HB.out)⟩
  rw [if_neg c31] at H
  have c31b0 : (a0 == 14) = false := beq_eq_false_iff_ne.mpr c31
  have c31b1 : (a0 != 14) = true := bne_iff_ne.mpr c31
  by_cases c38 : (IntKind.u64.wrap (a2_1)) = 0
  · rw [if_pos c38] at H
    exact absurd H (by simp)
  rw [if_neg c38] at H
  have c38b0 : ((IntKind.u64.wrap (a2_1)) == 0) = false := beq_eq_false_iff_ne.mpr c38
  have c38b1 : ((IntKind.u64.wrap (a2_1)) != 0) = true := bne_iff_ne.mpr c38
  obtain rfl := Option.some.inj H
  go_enter Try.func94, Try.ntmps94
  go_wp2_with (first | ((with_reducible refine gate_dst (N := 4) rfl ?_); refine box_event ?hg (N := 4) ?hd (cs := #[.int .i64 a1_0, .int .i64 a1_1, .string a1_2]) (t := 34) ?hr ?_; (case hd => rfl); (case hg => rfl); (case hr => first | (go_simp; done) | (go_simp; rfl)); intro gb289 hg w39 hbox hb; have n0_ := mk0 (below_step (by repeat (first | (with_reducible first | exact HB.out | apply wA | apply wN | apply wD) | exact HB.out)) hb); have n1_ := mk0 (hbox); have n2_ := mk0 ((by rw [hg]; exact (below_size (by repeat (first | (with_reducible first | exact HB.out | apply wA | apply wN | apply wD) | exact HB.out))) : w.heap.size ≤ gb289)); have n3_ := mk0 ((by rw [hg]; exact (below_size (by repeat (first | (with_reducible first | exact HB.out | apply wA | apply wN | apply wD) | exact HB.out))) : w.heap.size ≤ gb289)); clear HB; have HB := n0_; have BK289 := n1_; have GW289 := n2_; have GE289 := n3_; clear n0_ n1_ n2_ n3_; clear hb hbox hg) | ((with_reducible refine gate_dst (N := 5) rfl ?_); refine box_event ?hg (N := 5) ?hd (cs := #[.int .i64 a2_0, .int .i64 a2_1, .string a2_2]) (t := 34) ?hr ?_; (case hd => rfl); (case hg => rfl); (case hr => first | (go_simp; done) | (go_simp; rfl)); intro gb290 hg w40 hbox hb; have n0_ := mk0 (bB (g := gb289) (o := .cells #[.int .i64 a1_0, .int .i64 a1_1, .string a1_2] 34 (0, 0)) (by (with_reducible repeat (first | apply bN | apply bD | apply bA)); exact BK289.out) hb); have n1_ := mk0 (below_step (by repeat (first | (with_reducible first | exact HB.out | apply wA | apply wN | apply wD | refine wS ?_ GE289.out) | exact HB.out)) hb); have n2_ := mk0 (hbox); have n3_ := mk0 ((by rw [hg]; exact (below_size (by repeat (first | (with_reducible first | exact HB.out | apply wA | apply wN | apply wD | refine wS ?_ GE289.out) | exact HB.out))) : w.heap.size ≤ gb290)); have n4_ := mk0 ((by rw [hg]; exact (below_size (by repeat (first | (with_reducible first | exact HB.out | apply wA | apply wN | apply wD | refine wS ?_ GE289.out) | exact HB.out))) : w.heap.size ≤ gb290)); have n5_ := mk0 ((by rw [hg]; exact Nat.ne_of_lt (blk_lt (g := gb289) (o := .cells #[.int .i64 a1_0, .int .i64 a1_1, .string a1_2] 34 (0, 0)) (by (with_reducible repeat (first | apply bN | apply bD | apply bA)); exact BK289.out)) : gb289 ≠ gb290)); have n6_ := mk0 ((by rw [hg]; exact Nat.ne_of_gt (blk_lt (g := gb289) (o := .cells #[.int .i64 a1_0, .int .i64 a1_1, .string a1_2] 34 (0, 0)) (by (with_reducible repeat (first | apply bN | apply bD | apply bA)); exact BK289.out)) : gb290 ≠ gb289)); clear BK289; clear HB; have BK289 := n0_; have HB := n1_; have BK290 := n2_; have GW290 := n3_; have GE290 := n4_; have NB289_290 := n5_; have NB290_289 := n6_; clear n0_ n1_ n2_ n3_ n4_ n5_ n6_; clear hb hbox hg; have hnb41 := NB289_290.out; have hnc41 := NB290_289.out; have hcz42_0 : w40.cell? ⟨gb289, 0, none⟩ = some (.int .i64 a1_0) := (bC BK289.out 0).trans rfl; have hcz42_1 : w40.cell? ⟨gb289, 1, none⟩ = some (.int .i64 a1_1) := (bC BK289.out 1).trans rfl; have hcz42_2 : w40.cell? ⟨gb289, 2, none⟩ = some (.string a1_2) := (bC BK289.out 2).trans rfl; have hfz42_0 := bF BK289.out 0; have hfz42_1 := bF BK289.out 1; have hfz42_2 := bF BK289.out 2) | ((with_reducible refine gate_callee (f := 104) rfl ?_); refine goesL_ (some 9) rfl rfl Try.func104 (by kernel_rfl) rfl #[.int .i64 a1_0] rfl (by (try simp only [List.map_toArray, List.map_cons, List.map_nil]); first | done | rfl | (simp only [List.length_drop, List.length_take]; rfl)) ?_; (with_reducible refine (impl_signed.calls a1_0 false _ A4.out).mono ?_); rintro e w' ⟨rfl, ⟨nd, rfl⟩⟩; refine ⟨_, rfl, ?_⟩; have hcz43_0 : w40.cell? ⟨gb290, 0, none⟩ = some (.int .i64 a2_0) := (bC BK290.out 0).trans rfl; have hcz43_1 : w40.cell? ⟨gb290, 1, none⟩ = some (.int .i64 a2_1) := (bC BK290.out 1).trans rfl; have hcz43_2 : w40.cell? ⟨gb290, 2, none⟩ = some (.string a2_2) := (bC BK290.out 2).trans rfl; have hfz43_0 := bF BK290.out 0; have hfz43_1 := bF BK290.out 1; have hfz43_2 := bF BK290.out 2))
  go_ret
  exact ⟨by first | rfl | (simp [errW_none, errW_some] <;> rfl) | (simp [*, errW_none, errW_some] <;> rfl), by repeat (first | (with_reducible first | exact HB.out | apply wA | apply wN | apply wD | refine wS ?_ GE289.out | refine wS ?_ GE290.out) | exact HB.out)⟩

end Go.Proofs.Ytajlomhnednghaa.B
namespace Go.Proofs.Ytajlomhnednghaa.B
open Go.RowKit Go.Proofs.YtajlomhnednghaaW.PrintWords Go.Proofs.YtajlomhnednghaaW.PrintLast Go.Proofs.YtajlomhnednghaaW.PrintMore
attribute [local go_sem] max2_int min2_int max_two min_two max_three min_three max_four min_four   -- for this text's walks alone
set_option linter.unusedVariables false
set_option linter.unusedSimpArgs false

/-! ### impl_shift: function 95 -/
mutual
def impl_shift.j0 : Nat → Int → Int → Bool → Int → Int → ByteArray → Int → Int → ByteArray → Option (Int)
  | 0, _, _, _, _, _, _, _, _, _ => none
  | k + 1, x0, x7, x8, x293000, x293001, x293002, x294000, x294001, x294002 => if x8 = true then (impl_shift.j1 k x0 true x293000 x293001 x293002 x294000 x294001 x294002) else (impl_shift.j1 k x0 (decide ((IntKind.u64.wrap (x294001)) ≥ x7)) x293000 x293001 x293002 x294000 x294001 x294002)
def impl_shift.j1 : Nat → Int → Bool → Int → Int → ByteArray → Int → Int → ByteArray → Option (Int)
  | 0, _, _, _, _, _, _, _, _ => none
  | k + 1, x0, x27, x293000, x293001, x293002, x294000, x294001, x294002 => if x27 = true then (if x0 = 18 then ((impl_signed.f x293000).bind fun t296 => (if t296 = true then (if x293001 < 0 then (some 18446744073709551615) else (some 0)) else (some 0))) else (some 0)) else (if x0 = 17 then (if 0 ≤ (IntKind.u64.wrap (x294001)) then (some (shl .u64 (IntKind.u64.wrap (x293001)) (IntKind.u64.wrap (x294001)))) else (none)) else ((impl_signed.f x293000).bind fun t297 => (if t297 = true then (if 0 ≤ (IntKind.u64.wrap (x294001)) then (some (IntKind.u64.wrap (shr .i64 x293001 (IntKind.u64.wrap (x294001))))) else (none)) else (if 0 ≤ (IntKind.u64.wrap (x294001)) then (some (shr .u64 (IntKind.u64.wrap (x293001)) (IntKind.u64.wrap (x294001)))) else (none)))))
end
def impl_shift.f (k : Nat) (a0 : Int) (a1_0 : Int) (a1_1 : Int) (a1_2 : ByteArray) (a2_0 : Int) (a2_1 : Int) (a2_2 : ByteArray) : Option (Int) := (impl_bits.f k a1_0).bind fun t294 => ((impl_signed.f a1_0).bind fun t295 => (if t295 = true then (impl_shift.j0 k a0 t294 (decide (a2_1 < 0)) a1_0 a1_1 a1_2 a2_0 a2_1 a2_2) else (impl_shift.j0 k a0 t294 false a1_0 a1_1 a1_2 a2_0 a2_1 a2_2)))
theorem impl_shift.mono_l : ∀ k, (∀ y0 y1 y2 y3 y4 y5 y6 y7 y8, LeO (impl_shift.j0 k y0 y1 y2 y3 y4 y5 y6 y7 y8) (impl_shift.j0 (k + 1) y0 y1 y2 y3 y4 y5 y6 y7 y8)) ∧ (∀ y0 y1 y2 y3 y4 y5 y6 y7, LeO (impl_shift.j1 k y0 y1 y2 y3 y4 y5 y6 y7) (impl_shift.j1 (k + 1) y0 y1 y2 y3 y4 y5 y6 y7))
  | 0 => ⟨fun _ _ _ _ _ _ _ _ _ r h => by simp [impl_shift.j0] at h, fun _ _ _ _ _ _ _ _ r h => by simp [impl_shift.j1] at h⟩
  | k + 1 => by
    obtain ⟨ih0, ih1⟩ := impl_shift.mono_l k
    refine ⟨?_, ?_⟩
    · intro y0 y1 y2 y3 y4 y5 y6 y7 y8
      unfold impl_shift.j0
      repeat' first
      | (with_reducible exact ih0 _ _ _ _ _ _ _ _ _)
      | (with_reducible exact ih1 _ _ _ _ _ _ _ _)
      | (with_reducible exact impl_bits.mono _ _)
      | (with_reducible exact LeO.refl _)
      | (with_reducible exact LeO.none _)
      | (with_reducible refine LeO.ite ?_ ?_)
      | (with_reducible refine LeO.bind ?_ (fun _ => ?_))
      | exact ih0 _ _ _ _ _ _ _ _ _
      | exact ih1 _ _ _ _ _ _ _ _
      | exact impl_bits.mono _ _
      | exact LeO.none _
      | refine LeO.ite ?_ ?_
      | refine LeO.bind ?_ (fun _ => ?_)
    intro y0 y1 y2 y3 y4 y5 y6 y7
    unfold impl_shift.j1
    repeat' first
    | (with_reducible exact ih0 _ _ _ _ _ _ _ _ _)
    | (with_reducible exact ih1 _ _ _ _ _ _ _ _)
    | (with_reducible exact impl_bits.mono _ _)
    | (with_reducible exact LeO.refl _)
    | (with_reducible exact LeO.none _)
    | (with_reducible refine LeO.ite ?_ ?_)
    | (with_reducible refine LeO.bind ?_ (fun _ => ?_))
    | exact ih0 _ _ _ _ _ _ _ _ _
    | exact ih1 _ _ _ _ _ _ _ _
    | exact impl_bits.mono _ _
    | exact LeO.none _
    | refine LeO.ite ?_ ?_
    | refine LeO.bind ?_ (fun _ => ?_)
theorem impl_shift.mono : ∀ a0 a1 a2 a3 a4 a5 a6 k, LeO (impl_shift.f k a0 a1 a2 a3 a4 a5 a6) (impl_shift.f (k + 1) a0 a1 a2 a3 a4 a5 a6) := by
  intro a0 a1 a2 a3 a4 a5 a6 k
  obtain ⟨ih0, ih1⟩ := impl_shift.mono_l k
  unfold impl_shift.f
  repeat' first
      | (with_reducible exact ih0 _ _ _ _ _ _ _ _ _)
      | (with_reducible exact ih1 _ _ _ _ _ _ _ _)
      | (with_reducible exact impl_bits.mono _ _)
      | (with_reducible exact LeO.refl _)
      | (with_reducible exact LeO.none _)
      | (with_reducible refine LeO.ite ?_ ?_)
      | (with_reducible refine LeO.bind ?_ (fun _ => ?_))
      | exact ih0 _ _ _ _ _ _ _ _ _
      | exact ih1 _ _ _ _ _ _ _ _
      | exact impl_bits.mono _ _
      | exact LeO.none _
      | refine LeO.ite ?_ ?_
      | refine LeO.bind ?_ (fun _ => ?_)
set_option maxHeartbeats 8000000 in
set_option maxRecDepth 100000 in
theorem impl_shift.calls (k : Nat) (a0 : Int) (a1_0 : Int) (a1_1 : Int) (a1_2 : ByteArray) (a2_0 : Int) (a2_1 : Int) (a2_2 : ByteArray) (r : Int) (w : World) (h : impl_shift.f k a0 a1_0 a1_1 a1_2 a2_0 a2_1 a2_2 = some r) :
    Calls Try.prog 95 #[.int .i64 a0, .agg #[.int .i64 a1_0, .int .i64 a1_1, .string a1_2], .agg #[.int .i64 a2_0, .int .i64 a2_1, .string a2_2]] w fun e w' => e = .returned (.int .u64 r) ∧ Below w.heap.size w w' := by
  have hu34 := Try.underlying34
  have HB := mk0 (Below.refl w.heap.size w)
  have H : ((impl_bits.f k a1_0).bind fun t294 => ((impl_signed.f a1_0).bind fun t295 => (if t295 = true then (impl_shift.j0 k a0 t294 (decide (a2_1 < 0)) a1_0 a1_1 a1_2 a2_0 a2_1 a2_2) else (impl_shift.j0 k a0 t294 false a1_0 a1_1 a1_2 a2_0 a2_1 a2_2)))) = some r := h
  clear h
  replace H := Option.bind_eq_some_iff.mp H
  obtain ⟨t294, A40, H⟩ := H
  replace H : ((impl_signed.f a1_0).bind fun t295 => (if t295 = true then (impl_shift.j0 k a0 t294 (decide (a2_1 < 0)) a1_0 a1_1 a1_2 a2_0 a2_1 a2_2) else (impl_shift.j0 k a0 t294 false a1_0 a1_1 a1_2 a2_0 a2_1 a2_2))) = some r := H
  have A4 := mk0 A40
  clear A40
  have HC5 := mk0 H
  clear H
  go_enter Try.func95, Try.ntmps95
  go_upto_region 2 with (first | ((with_reducible refine gate_dst (N := 4) rfl ?_); refine box_event ?hg (N := 4) ?hd (cs := #[.int .i64 a1_0, .int .i64 a1_1, .string a1_2]) (t := 34) ?hr ?_; (case hd => rfl); (case hg => rfl); (case hr => first | (go_simp; done) | (go_simp; rfl)); intro gb292 hg w6 hbox hb; have n0_ := mk0 (below_step (by repeat (first | (with_reducible first | exact HB.out | apply wA | apply wN | apply wD) | exact HB.out)) hb); have n1_ := mk0 (hbox); have n2_ := mk0 ((by rw [hg]; exact (below_size (by repeat (first | (with_reducible first | exact HB.out | apply wA | apply wN | apply wD) | exact HB.out))) : w.heap.size ≤ gb292)); have n3_ := mk0 ((by rw [hg]; exact (below_size (by repeat (first | (with_reducible first | exact HB.out | apply wA | apply wN | apply wD) | exact HB.out))) : w.heap.size ≤ gb292)); clear HB; have HB := n0_; have BK292 := n1_; have GW292 := n2_; have GE292 := n3_; clear n0_ n1_ n2_ n3_; clear hb hbox hg) | ((with_reducible refine gate_dst (N := 5) rfl ?_); refine box_event ?hg (N := 5) ?hd (cs := #[.int .i64 a2_0, .int .i64 a2_1, .string a2_2]) (t := 34) ?hr ?_; (case hd => rfl); (case hg => rfl); (case hr => first | (go_simp; done) | (go_simp; rfl)); intro gb293 hg w7 hbox hb; have n0_ := mk0 (bB (g := gb292) (o := .cells #[.int .i64 a1_0, .int .i64 a1_1, .string a1_2] 34 (0, 0)) (by (with_reducible repeat (first | apply bN | apply bD | apply bA)); exact BK292.out) hb); have n1_ := mk0 (below_step (by repeat (first | (with_reducible first | exact HB.out | apply wA | apply wN | apply wD | refine wS ?_ GE292.out) | exact HB.out)) hb); have n2_ := mk0 (hbox); have n3_ := mk0 ((by rw [hg]; exact (below_size (by repeat (first | (with_reducible first | exact HB.out | apply wA | apply wN | apply wD | refine wS ?_ GE292.out) | exact HB.out))) : w.heap.size ≤ gb293)); have n4_ := mk0 ((by rw [hg]; exact (below_size (by repeat (first | (with_reducible first | exact HB.out | apply wA | apply wN | apply wD | refine wS ?_ GE292.out) | exact HB.out))) : w.heap.size ≤ gb293)); have n5_ := mk0 ((by rw [hg]; exact Nat.ne_of_lt (blk_lt (g := gb292) (o := .cells #[.int .i64 a1_0, .int .i64 a1_1, .string a1_2] 34 (0, 0)) (by (with_reducible repeat (first | apply bN | apply bD | apply bA)); exact BK292.out)) : gb292 ≠ gb293)); have n6_ := mk0 ((by rw [hg]; exact Nat.ne_of_gt (blk_lt (g := gb292) (o := .cells #[.int .i64 a1_0, .int .i64 a1_1, .string a1_2] 34 (0, 0)) (by (with_reducible repeat (first | apply bN | apply bD | apply bA)); exact BK292.out)) : gb293 ≠ gb292)); clear BK292; clear HB; have BK292 := n0_; have HB := n1_; have BK293 := n2_; have GW293 := n3_; have GE293 := n4_; have NB292_293 := n5_; have NB293_292 := n6_; clear n0_ n1_ n2_ n3_ n4_ n5_ n6_; clear hb hbox hg; have hnb8 := NB292_293.out; have hnc8 := NB293_292.out; have hcz9_0 : w7.cell? ⟨gb292, 0, none⟩ = some (.int .i64 a1_0) := (bC BK292.out 0).trans rfl; have hcz9_1 : w7.cell? ⟨gb292, 1, none⟩ = some (.int .i64 a1_1) := (bC BK292.out 1).trans rfl; have hcz9_2 : w7.cell? ⟨gb292, 2, none⟩ = some (.string a1_2) := (bC BK292.out 2).trans rfl; have hfz9_0 := bF BK292.out 0; have hfz9_1 := bF BK292.out 1; have hfz9_2 := bF BK292.out 2) | ((with_reducible refine gate_callee (f := 103) rfl ?_); refine goesL_ (some 11) rfl rfl Try.func103 (by kernel_rfl) rfl #[.int .i64 a1_0] rfl (by (try simp only [List.map_toArray, List.map_cons, List.map_nil]); first | done | rfl | (simp only [List.length_drop, List.length_take]; rfl)) ?_; (with_reducible refine (impl_bits.calls k a1_0 t294 _ A4.out).mono ?_); rintro e w' ⟨rfl, ⟨nd, rfl⟩⟩; refine ⟨_, rfl, ?_⟩))
  (try simp only [Act.put, List.setIfInBounds_toArray, List.set_cons_zero, List.set_cons_succ])
  go_cut [8] (fun v8 wc => ∃ (kq : Nat) (x8_4 : Bool), v8 = .bool x8_4 ∧ Aside0 (impl_shift.j0 kq a0 t294 x8_4 a1_0 a1_1 a1_2 a2_0 a2_1 a2_2 = some r) ∧ Aside0 (kq ≤ k) ∧ Aside0 (wc.heap[gb292]? = some (.cells #[.int .i64 a1_0, .int .i64 a1_1, .string a1_2] 34 (0, 0))) ∧ Aside0 (wc.heap[gb293]? = some (.cells #[.int .i64 a2_0, .int .i64 a2_1, .string a2_2] 34 (0, 0))) ∧ Aside0 (Below w.heap.size w wc))
  case first =>
    have H := HC5.out
    clear HC5
    replace H := Option.bind_eq_some_iff.mp H
    obtain ⟨t295, A100, H⟩ := H
    replace H : (if t295 = true then (impl_shift.j0 k a0 t294 (decide (a2_1 < 0)) a1_0 a1_1 a1_2 a2_0 a2_1 a2_2) else (impl_shift.j0 k a0 t294 false a1_0 a1_1 a1_2 a2_0 a2_1 a2_2)) = some r := H
    have A10 := mk0 A100
    clear A100
    by_cases c11 : t295 = true
    · subst c11
      have H1 : (impl_shift.j0 k a0 t294 (decide (a2_1 < 0)) a1_0 a1_1 a1_2 a2_0 a2_1 a2_2) = some r := by rw [if_pos rfl] at H; exact H
      clear H
      have H := H1
      clear H1
      have H' := mk0 H
      clear H
      have hnb12 := NB292_293.out
      have hnc12 := NB293_292.out
      have hcz13_0 : w7.cell? ⟨gb292, 0, none⟩ = some (.int .i64 a1_0) := (bC BK292.out 0).trans rfl
      have hcz13_1 : w7.cell? ⟨gb292, 1, none⟩ = some (.int .i64 a1_1) := (bC BK292.out 1).trans rfl
      have hcz13_2 : w7.cell? ⟨gb292, 2, none⟩ = some (.string a1_2) := (bC BK292.out 2).trans rfl
      have hfz13_0 := bF BK292.out 0
      have hfz13_1 := bF BK292.out 1
      have hfz13_2 := bF BK292.out 2
      go_wp2_with (first | ((with_reducible refine gate_callee (f := 104) rfl ?_); refine goesL_ (some 14) rfl rfl Try.func104 (by kernel_rfl) rfl #[.int .i64 a1_0] rfl (by (try simp only [List.map_toArray, List.map_cons, List.map_nil]); first | done | rfl | (simp only [List.length_drop, List.length_take]; rfl)) ?_; (with_reducible refine (impl_signed.calls a1_0 true _ A10.out).mono ?_); rintro e w' ⟨rfl, ⟨nd, rfl⟩⟩; refine ⟨_, rfl, ?_⟩; have hcz14_0 : w7.cell? ⟨gb293, 0, none⟩ = some (.int .i64 a2_0) := (bC BK293.out 0).trans rfl; have hcz14_1 : w7.cell? ⟨gb293, 1, none⟩ = some (.int .i64 a2_1) := (bC BK293.out 1).trans rfl; have hcz14_2 : w7.cell? ⟨gb293, 2, none⟩ = some (.string a2_2) := (bC BK293.out 2).trans rfl; have hfz14_0 := bF BK293.out 0; have hfz14_1 := bF BK293.out 1; have hfz14_2 := bF BK293.out 2))
      go_meet
      case rel => exact ⟨_, (decide (a2_1 < 0)), (by first | rfl | (simp; done) | (simp [*]; done)), H', ⟨by first | omega | exact Nat.le_refl _⟩, ⟨by (with_reducible repeat (first | apply bN | apply bD | apply bA)); exact BK292.out⟩, ⟨by (with_reducible repeat (first | apply bN | apply bD | apply bA)); exact BK293.out⟩, ⟨by repeat (first | (with_reducible first | exact HB.out | apply wA | apply wN | apply wD | refine wS ?_ GE292.out | refine wS ?_ GE293.out) | exact HB.out)⟩⟩
    replace c11 := Bool.eq_false_iff.mpr c11
    subst c11
    have H1 : (impl_shift.j0 k a0 t294 false a1_0 a1_1 a1_2 a2_0 a2_1 a2_2) = some r := by rw [if_neg (show ¬ (false = true) by decide)] at H; exact H
    clear H
    have H := H1
    clear H1
    have H' := mk0 H
    clear H
    have hnb15 := NB292_293.out
    have hnc15 := NB293_292.out
    have hcz16_0 : w7.cell? ⟨gb292, 0, none⟩ = some (.int .i64 a1_0) := (bC BK292.out 0).trans rfl
    have hcz16_1 : w7.cell? ⟨gb292, 1, none⟩ = some (.int .i64 a1_1) := (bC BK292.out 1).trans rfl
    have hcz16_2 : w7.cell? ⟨gb292, 2, none⟩ = some (.string a1_2) := (bC BK292.out 2).trans rfl
    have hfz16_0 := bF BK292.out 0
    have hfz16_1 := bF BK292.out 1
    have hfz16_2 := bF BK292.out 2
    go_wp2_with (first | ((with_reducible refine gate_callee (f := 104) rfl ?_); refine goesL_ (some 14) rfl rfl Try.func104 (by kernel_rfl) rfl #[.int .i64 a1_0] rfl (by (try simp only [List.map_toArray, List.map_cons, List.map_nil]); first | done | rfl | (simp only [List.length_drop, List.length_take]; rfl)) ?_; (with_reducible refine (impl_signed.calls a1_0 false _ A10.out).mono ?_); rintro e w' ⟨rfl, ⟨nd, rfl⟩⟩; refine ⟨_, rfl, ?_⟩))
    go_meet
    case rel => exact ⟨_, (false), (by first | rfl | (simp; done) | (simp [*]; done)), H', ⟨by first | omega | exact Nat.le_refl _⟩, ⟨by (with_reducible repeat (first | apply bN | apply bD | apply bA)); exact BK292.out⟩, ⟨by (with_reducible repeat (first | apply bN | apply bD | apply bA)); exact BK293.out⟩, ⟨by repeat (first | (with_reducible first | exact HB.out | apply wA | apply wN | apply wD | refine wS ?_ GE292.out | refine wS ?_ GE293.out) | exact HB.out)⟩⟩
  clear HC5
  try clear c1
  try clear p2
  try clear c8
  try clear c9
  try clear c10
  try clear c11
  try clear c12
  try clear c15
  try clear hcz13_0
  try clear hcz13_1
  try clear hcz13_2
  try clear hcz14_0
  try clear hcz14_1
  try clear hcz14_2
  try clear hcz16_0
  try clear hcz16_1
  try clear hcz16_2
  try clear hcz9_0
  try clear hcz9_1
  try clear hcz9_2
  try clear hfz13_0
  try clear hfz13_1
  try clear hfz13_2
  try clear hfz14_0
  try clear hfz14_1
  try clear hfz14_2
  try clear hfz16_0
  try clear hfz16_1
  try clear hfz16_2
  try clear hfz9_0
  try clear hfz9_1
  try clear hfz9_2
  obtain ⟨kq, x8_4, rfl, HA, HJ4, BK292, BK293, HB⟩ := hcut
  cases kq with
  | zero => exact absurd HA.out (by simp [impl_shift.j0])
  | succ kj4 =>
  have H := HA.out
  clear HA
  simp only [impl_shift.j0] at H
  have HC17 := mk0 H
  clear H
  go_upto_region 3 with (fail)
  go_cut [27] (fun v27 wc => ∃ (kq : Nat) (x27_16 : Bool), v27 = .bool x27_16 ∧ Aside0 (impl_shift.j1 kq a0 x27_16 a1_0 a1_1 a1_2 a2_0 a2_1 a2_2 = some r) ∧ Aside0 (kq ≤ kj4) ∧ Aside0 (wc.heap[gb292]? = some (.cells #[.int .i64 a1_0, .int .i64 a1_1, .string a1_2] 34 (0, 0))) ∧ Aside0 (wc.heap[gb293]? = some (.cells #[.int .i64 a2_0, .int .i64 a2_1, .string a2_2] 34 (0, 0))) ∧ Aside0 (Below w.heap.size w wc))
  case first =>
    have H := HC17.out
    clear HC17
    by_cases c18 : x8_4 = true
    · subst c18
      have H1 : (impl_shift.j1 kj4 a0 true a1_0 a1_1 a1_2 a2_0 a2_1 a2_2) = some r := by rw [if_pos rfl] at H; exact H
      clear H
      have H := H1
      clear H1
      have H' := mk0 H
      clear H
      go_wp2
      go_meet
      case rel => exact ⟨_, (true), (by first | rfl | (simp; done) | (simp [*]; done)), H', ⟨by have := HJ4.out; first | omega | exact Nat.le_refl _⟩, ⟨by (with_reducible repeat (first | apply bN | apply bD | apply bA)); exact BK292.out⟩, ⟨by (with_reducible repeat (first | apply bN | apply bD | apply bA)); exact BK293.out⟩, ⟨by repeat (first | (with_reducible first | exact HB.out | apply wA | apply wN | apply wD | refine wS ?_ GE292.out | refine wS ?_ GE293.out) | exact HB.out)⟩⟩
    replace c18 := Bool.eq_false_iff.mpr c18
    subst c18
    have H1 : (impl_shift.j1 kj4 a0 (decide ((IntKind.u64.wrap (a2_1)) ≥ t294)) a1_0 a1_1 a1_2 a2_0 a2_1 a2_2) = some r := by rw [if_neg (show ¬ (false = true) by decide)] at H; exact H
    clear H
    have H := H1
    clear H1
    have H' := mk0 H
    clear H
    have hnb19 := NB293_292.out
    have hnc19 := NB292_293.out
    have hcz20_0 : wc.cell? ⟨gb293, 0, none⟩ = some (.int .i64 a2_0) := (bC BK293.out 0).trans rfl
    have hcz20_1 : wc.cell? ⟨gb293, 1, none⟩ = some (.int .i64 a2_1) := (bC BK293.out 1).trans rfl
    have hcz20_2 : wc.cell? ⟨gb293, 2, none⟩ = some (.string a2_2) := (bC BK293.out 2).trans rfl
    have hfz20_0 := bF BK293.out 0
    have hfz20_1 := bF BK293.out 1
    have hfz20_2 := bF BK293.out 2
    go_wp2
    go_meet
    case rel => exact ⟨_, (decide ((IntKind.u64.wrap (a2_1)) ≥ t294)), (by first | rfl | (simp; done) | (simp [*]; done)), H', ⟨by have := HJ4.out; first | omega | exact Nat.le_refl _⟩, ⟨by (with_reducible repeat (first | apply bN | apply bD | apply bA)); exact BK292.out⟩, ⟨by (with_reducible repeat (first | apply bN | apply bD | apply bA)); exact BK293.out⟩, ⟨by repeat (first | (with_reducible first | exact HB.out | apply wA | apply wN | apply wD | refine wS ?_ GE292.out | refine wS ?_ GE293.out) | exact HB.out)⟩⟩
  clear HC17
  try clear c1
  try clear p2
  try clear c8
  try clear c9
  try clear c10
  try clear c11
  try clear c12
  try clear c15
  try clear c18
  try clear c19
  try clear hcz13_0
  try clear hcz13_1
  try clear hcz13_2
  try clear hcz14_0
  try clear hcz14_1
  try clear hcz14_2
  try clear hcz16_0
  try clear hcz16_1
  try clear hcz16_2
  try clear hcz20_0
  try clear hcz20_1
  try clear hcz20_2
  try clear hcz9_0
  try clear hcz9_1
  try clear hcz9_2
  try clear hfz13_0
  try clear hfz13_1
  try clear hfz13_2
  try clear hfz14_0
  try clear hfz14_1
  try clear hfz14_2
  try clear hfz16_0
  try clear hfz16_1
  try clear hfz16_2
  try clear hfz20_0
  try clear hfz20_1
  try clear hfz20_2
  try clear hfz9_0
  try clear hfz9_1
  try clear hfz9_2
  try clear p2
  obtain ⟨kq, x27_16, rfl, HA, HJ16, BK292, BK293, HB⟩ := hcut
  cases kq with
  | zero => exact absurd HA.out (by simp [impl_shift.j1])
  | succ kj16 =>
  have H := HA.out
  clear HA
  simp only [impl_shift.j1] at H
  by_cases c21 : x27_16 = true
  · subst c21
    have H1 : (if a0 = 18 then ((impl_signed.f a1_0).bind fun t296 => (if t296 = true then (if a1_1 < 0 then (some 18446744073709551615) else (some 0)) else (some 0))) else (some 0)) = some r := by rw [if_pos rfl] at H; exact H
    clear H
    have H := H1
    clear H1
    by_cases c22 : a0 = 18
    · rw [if_pos c22] at H
      have c22b0 : (a0 == 18) = true := beq_iff_eq.mpr c22
      have c22b1 : (a0 != 18) = false := bne_eq_false_iff_eq.mpr c22
      clear c22
      replace H := Option.bind_eq_some_iff.mp H
      obtain ⟨t296, A230, H⟩ := H
      replace H : (if t296 = true then (if a1_1 < 0 then (some 18446744073709551615) else (some 0)) else (some 0)) = some r := H
      have A23 := mk0 A230
      clear A230
      by_cases c24 : t296 = true
      · subst c24
        have H1 : (if a1_1 < 0 then (some 18446744073709551615) else (some 0)) = some r := by rw [if_pos rfl] at H; exact H
        clear H
        have H := H1
        clear H1
        by_cases c25 : a1_1 < 0
        · rw [if_pos c25] at H
          have c25b0 : decide (a1_1 < 0) = true := decide_eq_true c25
          clear c25
          obtain rfl := Option.some.inj H
          have hnb26 := NB292_293.out
          have hnc26 := NB293_292.out
          have hcz27_0 : wc.cell? ⟨gb292, 0, none⟩ = some (.int .i64 a1_0) := (bC BK292.out 0).trans rfl
          have hcz27_1 : wc.cell? ⟨gb292, 1, none⟩ = some (.int .i64 a1_1) := (bC BK292.out 1).trans rfl
          have hcz27_2 : wc.cell? ⟨gb292, 2, none⟩ = some (.string a1_2) := (bC BK292.out 2).trans rfl
          have hfz27_0 := bF BK292.out 0
          have hfz27_1 := bF BK292.out 1
          have hfz27_2 := bF BK292.out 2
          go_wp2_with (first | (go_at_call 104; (with_reducible refine (impl_signed.calls a1_0 true _ A23.out).mono ?_); rintro e w' ⟨rfl, ⟨nd, rfl⟩⟩))
          go_ret
          exact ⟨by first | rfl | (simp [errW_none, errW_some] <;> rfl) | (simp [*, errW_none, errW_some] <;> rfl), by repeat (first | (with_reducible first | exact HB.out | apply wA | apply wN | apply wD | refine wS ?_ GE292.out | refine wS ?_ GE293.out) | exact HB.out)⟩
        rw [if_neg c25] at H
        have c25b0 : decide (a1_1 < 0) = false := decide_eq_false c25
        clear c25
        obtain rfl := Option.some.inj H
        have hnb28 := NB292_293.out
        have hnc28 := NB293_292.out
        have hcz29_0 : wc.cell? ⟨gb292, 0, none⟩ = some (.int .i64 a1_0) := (bC BK292.out 0).trans rfl
        have hcz29_1 : wc.cell? ⟨gb292, 1, none⟩ = some (.int .i64 a1_1) := (bC BK292.out 1).trans rfl
        have hcz29_2 : wc.cell? ⟨gb292, 2, none⟩ = some (.string a1_2) := (bC BK292.out 2).trans rfl
        have hfz29_0 := bF BK292.out 0
        have hfz29_1 := bF BK292.out 1
        have hfz29_2 := bF BK292.out 2
        go_wp2_with (first | (go_at_call 104; (with_reducible refine (impl_signed.calls a1_0 true _ A23.out).mono ?_); rintro e w' ⟨rfl, ⟨nd, rfl⟩⟩))
        go_ret
        exact ⟨by first | rfl | (simp [errW_none, errW_some] <;> rfl) | (simp [*, errW_none, errW_some] <;> rfl), by repeat (first | (with_reducible first | exact HB.out | apply wA | apply wN | apply wD | refine wS ?_ GE292.out | refine wS ?_ GE293.out) | exact HB.out)⟩
      replace c24 := Bool.eq_false_iff.mpr c24
      subst c24
      have H1 : (some 0) = some r := by rw [if_neg (show ¬ (false = true) by decide)] at H; exact H
      clear H
      have H := H1
      clear H1
      obtain rfl := Option.some.inj H
      have hnb30 := NB292_293.out
      have hnc30 := NB293_292.out
      have hcz31_0 : wc.cell? ⟨gb292, 0, none⟩ = some (.int .i64 a1_0) := (bC BK292.out 0).trans rfl
      have hcz31_1 : wc.cell? ⟨gb292, 1, none⟩ = some (.int .i64 a1_1) := (bC BK292.out 1).trans rfl
      have hcz31_2 : wc.cell? ⟨gb292, 2, none⟩ = some (.string a1_2) := (bC BK292.out 2).trans rfl
      have hfz31_0 := bF BK292.out 0
      have hfz31_1 := bF BK292.out 1
      have hfz31_2 := bF BK292.out 2
      go_wp2_with (first | (go_at_call 104; (with_reducible refine (impl_signed.calls a1_0 false _ A23.out).mono ?_); rintro e w' ⟨rfl, ⟨nd, rfl⟩⟩))
      go_ret
      exact ⟨by first | rfl | (simp [errW_none, errW_some] <;> rfl) | (simp [*, errW_none, errW_some] <;> rfl), by repeat (first | (with_reducible first | exact HB.out | apply wA | apply wN | apply wD | refine wS ?_ GE292.out | refine wS ?_ GE293.out) | exact HB.out)⟩
    rw [if_neg c22] at H
    have c22b0 : (a0 == 18) = false := beq_eq_false_iff_ne.mpr c22
    have c22b1 : (a0 != 18) = true := bne_iff_ne.mpr c22
    obtain rfl := Option.some.inj H
    go_wp2
    go_ret
    exact ⟨by first | rfl | (simp [errW_none, errW_some] <;> rfl) | (simp [*, errW_none, errW_some] <;> rfl), by repeat (first | (with_reducible first | exact HB.out | apply wA | apply wN | apply wD | refine wS ?_ GE292.out | refine wS ?_ GE293.out) | exact HB.out)⟩
  replace c21 := Bool.eq_false_iff.mpr c21
  subst c21
  have H1 : (if a0 = 17 then (if 0 ≤ (IntKind.u64.wrap (a2_1)) then (some (shl .u64 (IntKind.u64.wrap (a1_1)) (IntKind.u64.wrap (a2_1)))) else (none)) else ((impl_signed.f a1_0).bind fun t297 => (if t297 = true then (if 0 ≤ (IntKind.u64.wrap (a2_1)) then (some (IntKind.u64.wrap (shr .i64 a1_1 (IntKind.u64.wrap (a2_1))))) else (none)) else (if 0 ≤ (IntKind.u64.wrap (a2_1)) then (some (shr .u64 (IntKind.u64.wrap (a1_1)) (IntKind.u64.wrap (a2_1)))) else (none))))) = some r := by rw [if_neg (show ¬ (false = true) by decide)] at H; exact H
  clear H
  have H := H1
  clear H1
  by_cases c32 : a0 = 17
  · rw [if_pos c32] at H
    have c32b0 : (a0 == 17) = true := beq_iff_eq.mpr c32
    have c32b1 : (a0 != 17) = false := bne_eq_false_iff_eq.mpr c32
    clear c32
    obtain ⟨ji33, hji33⟩ : ∃ j_ : Int, (IntKind.u64.wrap (a2_1)) = j_ := ⟨_, rfl⟩
    replace H : (if 0 ≤ (ji33) then (some (shl .u64 (IntKind.u64.wrap (a1_1)) (ji33))) else (none)) = some r := by first | (rw [hji33] at H; exact H) | (simp only [hji33] at H ⊢; exact H)
    by_cases c34 : 0 ≤ (ji33)
    · rw [if_pos c34] at H
      have c34b0 := eq_true c34
      have c34b1 : decide (0 ≤ (ji33)) = true := decide_eq_true c34
      clear c34
      obtain ⟨ji35, hji35⟩ : ∃ j_ : Int, (shl .u64 (IntKind.u64.wrap (a1_1)) (ji33)) = j_ := ⟨_, rfl⟩
      replace H : (some ji35) = some r := by first | (rw [hji35] at H; exact H) | (simp only [hji35] at H ⊢; exact H)
      have hji35nn : 0 ≤ ji35 := by rw [← hji35]; unfold shl IntKind.wrap; simp only [IntKind.bits, IntKind.signed]; simp; omega
      have hji35nm : ji35 ≤ 18446744073709551615 := by rw [← hji35]; unfold shl IntKind.wrap; simp only [IntKind.bits, IntKind.signed]; simp; omega
      have hji35_ : (IntKind.u64.wrap ((IntKind.u64.wrap (a1_1)) * 2 ^ min (ji33).toNat 64)) = ji35 := hji35
      have hji35z : (ji33) ≤ 64 → (IntKind.u64.wrap ((IntKind.u64.wrap (a1_1)) * 2 ^ (ji33).toNat)) = ji35 := shl_small hji35
      obtain rfl := Option.some.inj H
      have hnb36 := NB292_293.out
      have hnc36 := NB293_292.out
      have hcz37_0 : wc.cell? ⟨gb292, 0, none⟩ = some (.int .i64 a1_0) := (bC BK292.out 0).trans rfl
      have hcz37_1 : wc.cell? ⟨gb292, 1, none⟩ = some (.int .i64 a1_1) := (bC BK292.out 1).trans rfl
      have hcz37_2 : wc.cell? ⟨gb292, 2, none⟩ = some (.string a1_2) := (bC BK292.out 2).trans rfl
      have hfz37_0 := bF BK292.out 0
      have hfz37_1 := bF BK292.out 1
      have hfz37_2 := bF BK292.out 2
      have hcz38_0 : wc.cell? ⟨gb293, 0, none⟩ = some (.int .i64 a2_0) := (bC BK293.out 0).trans rfl
      have hcz38_1 : wc.cell? ⟨gb293, 1, none⟩ = some (.int .i64 a2_1) := (bC BK293.out 1).trans rfl
      have hcz38_2 : wc.cell? ⟨gb293, 2, none⟩ = some (.string a2_2) := (bC BK293.out 2).trans rfl
      have hfz38_0 := bF BK293.out 0
      have hfz38_1 := bF BK293.out 1
      have hfz38_2 := bF BK293.out 2
      go_wp2
      go_ret
      exact ⟨by first | rfl | (simp [errW_none, errW_some] <;> rfl) | (simp only [← hji33, ← hji35]; first | rfl | (simp [errW_none, errW_some] <;> rfl)) | (simp [*, errW_none, errW_some] <;> rfl), by repeat (first | (with_reducible first | exact HB.out | apply wA | apply wN | apply wD | refine wS ?_ GE292.out | refine wS ?_ GE293.out) | exact HB.out)⟩
    rw [if_neg c34] at H
    exact absurd H (by simp)
  rw [if_neg c32] at H
  have c32b0 : (a0 == 17) = false := beq_eq_false_iff_ne.mpr c32
  have c32b1 : (a0 != 17) = true := bne_iff_ne.mpr c32
  replace H := Option.bind_eq_some_iff.mp H
  obtain ⟨t297, A390, H⟩ := H
  replace H : (if t297 = true then (if 0 ≤ (IntKind.u64.wrap (a2_1)) then (some (IntKind.u64.wrap (shr .i64 a1_1 (IntKind.u64.wrap (a2_1))))) else (none)) else (if 0 ≤ (IntKind.u64.wrap (a2_1)) then (some (shr .u64 (IntKind.u64.wrap (a1_1)) (IntKind.u64.wrap (a2_1)))) else (none))) = some r := H
  have A39 := mk0 A390
  clear A390
  by_cases c40 : t297 = true
  · subst c40
    have H1 : (if 0 ≤ (IntKind.u64.wrap (a2_1)) then (some (IntKind.u64.wrap (shr .i64 a1_1 (IntKind.u64.wrap (a2_1))))) else (none)) = some r := by rw [if_pos rfl] at H; exact H
    clear H
    have H := H1
    clear H1
    obtain ⟨ji41, hji41⟩ : ∃ j_ : Int, (IntKind.u64.wrap (a2_1)) = j_ := ⟨_, rfl⟩
    replace H : (if 0 ≤ (ji41) then (some (IntKind.u64.wrap (shr .i64 a1_1 (ji41)))) else (none)) = some r := by first | (rw [hji41] at H; exact H) | (simp only [hji41] at H ⊢; exact H)
    (try rw [hji41] at A39)
    by_cases c42 : 0 ≤ (ji41)
    · rw [if_pos c42] at H
      have c42b0 := eq_true c42
      have c42b1 : decide (0 ≤ (ji41)) = true := decide_eq_true c42
      clear c42
      obtain ⟨ji43, hji43⟩ : ∃ j_ : Int, (shr .i64 a1_1 (ji41)) = j_ := ⟨_, rfl⟩
      replace H : (some (IntKind.u64.wrap (ji43))) = some r := by first | (rw [hji43] at H; exact H) | (simp only [hji43] at H ⊢; exact H)
      (try rw [hji43] at A39)
      have hji43_ : (a1_1 / 2 ^ min (ji41).toNat 64) = ji43 := hji43
      have hji43z : (ji41) ≤ 64 → (a1_1 / 2 ^ (ji41).toNat) = ji43 := shr_small hji43
      obtain rfl := Option.some.inj H
      have hnb44 := NB292_293.out
      have hnc44 := NB293_292.out
      have hcz45_0 : wc.cell? ⟨gb292, 0, none⟩ = some (.int .i64 a1_0) := (bC BK292.out 0).trans rfl
      have hcz45_1 : wc.cell? ⟨gb292, 1, none⟩ = some (.int .i64 a1_1) := (bC BK292.out 1).trans rfl
      have hcz45_2 : wc.cell? ⟨gb292, 2, none⟩ = some (.string a1_2) := (bC BK292.out 2).trans rfl
      have hfz45_0 := bF BK292.out 0
      have hfz45_1 := bF BK292.out 1
      have hfz45_2 := bF BK292.out 2
      go_wp2_with (first | ((with_reducible refine gate_callee (f := 104) rfl ?_); refine goesL_ (some 51) rfl rfl Try.func104 (by kernel_rfl) rfl #[.int .i64 a1_0] rfl (by (try simp only [List.map_toArray, List.map_cons, List.map_nil]); first | done | rfl | (simp only [List.length_drop, List.length_take]; rfl)) ?_; (with_reducible refine (impl_signed.calls a1_0 true _ A39.out).mono ?_); rintro e w' ⟨rfl, ⟨nd, rfl⟩⟩; refine ⟨_, rfl, ?_⟩; have hcz46_0 : wc.cell? ⟨gb293, 0, none⟩ = some (.int .i64 a2_0) := (bC BK293.out 0).trans rfl; have hcz46_1 : wc.cell? ⟨gb293, 1, none⟩ = some (.int .i64 a2_1) := (bC BK293.out 1).trans rfl; have hcz46_2 : wc.cell? ⟨gb293, 2, none⟩ = some (.string a2_2) := (bC BK293.out 2).trans rfl; have hfz46_0 := bF BK293.out 0; have hfz46_1 := bF BK293.out 1; have hfz46_2 := bF BK293.out 2))
      go_ret
      exact ⟨by first | rfl | (simp [errW_none, errW_some] <;> rfl) | (simp only [← hji41, ← hji43]; first | rfl | (simp [errW_none, errW_some] <;> rfl)) | (simp [*, errW_none, errW_some] <;> rfl), by repeat (first | (with_reducible first | exact HB.out | apply wA | apply wN | apply wD | refine wS ?_ GE292.out | refine wS ?_ GE293.out) | exact HB.out)⟩
    rw [if_neg c42] at H
    exact absurd H (by simp)
  replace c40 := Bool.eq_false_iff.mpr c40
  subst c40
  have H1 : (if 0 ≤ (IntKind.u64.wrap (a2_1)) then (some (shr .u64 (IntKind.u64.wrap (a1_1)) (IntKind.u64.wrap (a2_1)))) else (none)) = some r := by rw [if_neg (show ¬ (false = true) by decide)] at H; exact H
  clear H
  have H := H1
  clear H1
  obtain ⟨ji47, hji47⟩ : ∃ j_ : Int, (IntKind.u64.wrap (a2_1)) = j_ := ⟨_, rfl⟩
  replace H : (if 0 ≤ (ji47) then (some (shr .u64 (IntKind.u64.wrap (a1_1)) (ji47))) else (none)) = some r := by first | (rw [hji47] at H; exact H) | (simp only [hji47] at H ⊢; exact H)
  (try rw [hji47] at A39)
  by_cases c48 : 0 ≤ (ji47)
  · rw [if_pos c48] at H
    have c48b0 := eq_true c48
    have c48b1 : decide (0 ≤ (ji47)) = true := decide_eq_true c48
    clear c48
    obtain ⟨ji49, hji49⟩ : ∃ j_ : Int, (shr .u64 (IntKind.u64.wrap (a1_1)) (ji47)) = j_ := ⟨_, rfl⟩
    replace H : (some ji49) = some r := by first | (rw [hji49] at H; exact H) | (simp only [hji49] at H ⊢; exact H)
    (try rw [hji49] at A39)
    have hji49_ : ((IntKind.u64.wrap (a1_1)) / 2 ^ min (ji47).toNat 64) = ji49 := hji49
    have hji49z : (ji47) ≤ 64 → ((IntKind.u64.wrap (a1_1)) / 2 ^ (ji47).toNat) = ji49 := shr_small hji49
    obtain rfl := Option.some.inj H
    have hnb50 := NB292_293.out
    have hnc50 := NB293_292.out
    have hcz51_0 : wc.cell? ⟨gb292, 0, none⟩ = some (.int .i64 a1_0) := (bC BK292.out 0).trans rfl
    have hcz51_1 : wc.cell? ⟨gb292, 1, none⟩ = some (.int .i64 a1_1) := (bC BK292.out 1).trans rfl
    have hcz51_2 : wc.cell? ⟨gb292, 2, none⟩ = some (.string a1_2) := (bC BK292.out 2).trans rfl
    have hfz51_0 := bF BK292.out 0
    have hfz51_1 := bF BK292.out 1
    have hfz51_2 := bF BK292.out 2
    go_wp2_with (first | ((with_reducible refine gate_callee (f := 104) rfl ?_); refine goesL_ (some 51) rfl rfl Try.func104 (by kernel_rfl) rfl #[.int .i64 a1_0] rfl (by (try simp only [List.map_toArray, List.map_cons, List.map_nil]); first | done | rfl | (simp only [List.length_drop, List.length_take]; rfl)) ?_; (with_reducible refine (impl_signed.calls a1_0 false _ A39.out).mono ?_); rintro e w' ⟨rfl, ⟨nd, rfl⟩⟩; refine ⟨_, rfl, ?_⟩; have hcz52_0 : wc.cell? ⟨gb293, 0, none⟩ = some (.int .i64 a2_0) := (bC BK293.out 0).trans rfl; have hcz52_1 : wc.cell? ⟨gb293, 1, none⟩ = some (.int .i64 a2_1) := (bC BK293.out 1).trans rfl; have hcz52_2 : wc.cell? ⟨gb293, 2, none⟩ = some (.string a2_2) := (bC BK293.out 2).trans rfl; have hfz52_0 := bF BK293.out 0; have hfz52_1 := bF BK293.out 1; have hfz52_2 := bF BK293.out 2))
    go_ret
    exact ⟨by first | rfl | (simp [errW_none, errW_some] <;> rfl) | (simp only [← hji47, ← hji49]; first | rfl | (simp [errW_none, errW_some] <;> rfl)) | (simp [*, errW_none, errW_some] <;> rfl), by repeat (first | (with_reducible first | exact HB.out | apply wA | apply wN | apply wD | refine wS ?_ GE292.out | refine wS ?_ GE293.out) | exact HB.out)⟩
  rw [if_neg c48] at H
  exact absurd H (by simp)

end Go.Proofs.Ytajlomhnednghaa.B
