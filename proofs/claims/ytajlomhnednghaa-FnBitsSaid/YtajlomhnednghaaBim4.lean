/- Texts of this session, put together (wip/tools/pack.py): Bx23. Conditions: none. -/
import Derived.Test.YtajlomhnednghaaBim1
import Derived.Test.YtajlomhnednghaaBim2
import Derived.Test.YtajlomhnednghaaBim3
namespace Go.Proofs.Ytajlomhnednghaa.B
open Go.RowKit Go.Proofs.YtajlomhnednghaaW.PrintWords Go.Proofs.YtajlomhnednghaaW.PrintLast Go.Proofs.YtajlomhnednghaaW.PrintMore
attribute [local go_sem] max2_int min2_int max_two min_two max_three min_three max_four min_four   -- for this text's walks alone
set_option linter.unusedVariables false
set_option linter.unusedSimpArgs false

set_option maxHeartbeats 8000000 in
set_option maxRecDepth 100000 in
theorem spec_DrawBinary.calls (k : Nat) (A0 : Option Addr) (c0 : Nat) (l0 : List Int) (r1 : Int) (r2 : Int) (r3 : Int) (r4 : ByteArray) (r5 : Int) (r6 : Int) (r7 : ByteArray) (w : World) (hr0 : Kd.C (Kd.int .u8) w A0 l0.length l0) (hc0 : l0.length ≤ c0) (h : spec_DrawBinary.f k l0 = some (r1, r2, r3, r4, r5, r6, r7)) :
    Calls Try.prog 54 #[.slice A0 l0.length c0] w fun e w' => e = .returned (.tuple #[.int .i64 r1, .agg #[.int .i64 r2, .int .i64 r3, .string r4], .agg #[.int .i64 r5, .int .i64 r6, .string r7]]) ∧ Below w.heap.size w w' := by
  have hu34 := Try.underlying34
  have HR0 := mk0 hr0
  have HC0 := mk0 hc0
  clear hr0 hc0
  have HB := mk0 (Below.refl w.heap.size w)
  have H : ((spec_l1Open.f l0).bind fun bt224 => ((spec_l1Rd_pick.f k bt224.1 bt224.2 18).bind fun bt227 => ((spec_l1Rd_pick.f k bt224.1 bt227.2 8).bind fun bt229 => (if (wrap64 (1 + bt227.1)) ≤ 2 then (spec_DrawBinary.j0 k (wrap64 (1 + bt227.1)) 1 bt224.1 bt229.2) else (if (wrap64 (1 + bt227.1)) ≤ 9 then ((spec_l1Rd_pick.f k bt224.1 bt229.2 3).bind fun bt231 => (if bt231.1 = 0 then (spec_DrawBinary.j0 k (wrap64 (1 + bt227.1)) 2 bt224.1 bt231.2) else (spec_DrawBinary.j0 k (wrap64 (1 + bt227.1)) (wrap64 (3 + bt229.1)) bt224.1 bt231.2))) else (spec_DrawBinary.j0 k (wrap64 (1 + bt227.1)) (wrap64 (3 + bt229.1)) bt224.1 bt229.2)))))) = some (r1, r2, r3, r4, r5, r6, r7) := h
  clear h
  replace H := Option.bind_eq_some_iff.mp H
  obtain ⟨⟨t224, t225⟩, A20, H⟩ := H
  replace H : ((spec_l1Rd_pick.f k t224 t225 18).bind fun bt227 => ((spec_l1Rd_pick.f k t224 bt227.2 8).bind fun bt229 => (if (wrap64 (1 + bt227.1)) ≤ 2 then (spec_DrawBinary.j0 k (wrap64 (1 + bt227.1)) 1 t224 bt229.2) else (if (wrap64 (1 + bt227.1)) ≤ 9 then ((spec_l1Rd_pick.f k t224 bt229.2 3).bind fun bt231 => (if bt231.1 = 0 then (spec_DrawBinary.j0 k (wrap64 (1 + bt227.1)) 2 t224 bt231.2) else (spec_DrawBinary.j0 k (wrap64 (1 + bt227.1)) (wrap64 (3 + bt229.1)) t224 bt231.2))) else (spec_DrawBinary.j0 k (wrap64 (1 + bt227.1)) (wrap64 (3 + bt229.1)) t224 bt229.2))))) = some (r1, r2, r3, r4, r5, r6, r7) := H
  have A2 := mk0 A20
  clear A20
  replace H := Option.bind_eq_some_iff.mp H
  obtain ⟨⟨t227, t228⟩, A30, H⟩ := H
  replace H : ((spec_l1Rd_pick.f k t224 t228 8).bind fun bt229 => (if (wrap64 (1 + t227)) ≤ 2 then (spec_DrawBinary.j0 k (wrap64 (1 + t227)) 1 t224 bt229.2) else (if (wrap64 (1 + t227)) ≤ 9 then ((spec_l1Rd_pick.f k t224 bt229.2 3).bind fun bt231 => (if bt231.1 = 0 then (spec_DrawBinary.j0 k (wrap64 (1 + t227)) 2 t224 bt231.2) else (spec_DrawBinary.j0 k (wrap64 (1 + t227)) (wrap64 (3 + bt229.1)) t224 bt231.2))) else (spec_DrawBinary.j0 k (wrap64 (1 + t227)) (wrap64 (3 + bt229.1)) t224 bt229.2)))) = some (r1, r2, r3, r4, r5, r6, r7) := H
  have A3 := mk0 A30
  clear A30
  replace H := Option.bind_eq_some_iff.mp H
  obtain ⟨⟨t229, t230⟩, A40, H⟩ := H
  replace H : (if (wrap64 (1 + t227)) ≤ 2 then (spec_DrawBinary.j0 k (wrap64 (1 + t227)) 1 t224 t230) else (if (wrap64 (1 + t227)) ≤ 9 then ((spec_l1Rd_pick.f k t224 t230 3).bind fun bt231 => (if bt231.1 = 0 then (spec_DrawBinary.j0 k (wrap64 (1 + t227)) 2 t224 bt231.2) else (spec_DrawBinary.j0 k (wrap64 (1 + t227)) (wrap64 (3 + t229)) t224 bt231.2))) else (spec_DrawBinary.j0 k (wrap64 (1 + t227)) (wrap64 (3 + t229)) t224 t230))) = some (r1, r2, r3, r4, r5, r6, r7) := H
  have A4 := mk0 A40
  clear A40
  have HC5 := mk0 H
  clear H
  go_enter Try.func54, Try.ntmps54
  go_upto_if 19 with (first | ((with_reducible refine gate_dst (N := 3) rfl ?_); refine box_event ?hg (N := 3) ?hd (cs := #[.int .i64 0, .int .i64 0, .string (⟨#[]⟩ : ByteArray)]) (t := 34) ?hr ?_; (case hd => rfl); (case hg => rfl); (case hr => first | (go_simp; done) | (go_simp; rfl)); intro gb222 hg w6 hbox hb; have n0_ := mk0 (below_step (by repeat (first | (with_reducible first | exact HB.out | apply wA | apply wN | apply wD) | exact HB.out)) hb); have n1_ := mk0 (hbox); have n2_ := mk0 ((by rw [hg]; exact (below_size (by repeat (first | (with_reducible first | exact HB.out | apply wA | apply wN | apply wD) | exact HB.out))) : w.heap.size ≤ gb222)); have n3_ := mk0 ((by rw [hg]; exact (below_size (by repeat (first | (with_reducible first | exact HB.out | apply wA | apply wN | apply wD) | exact HB.out))) : w.heap.size ≤ gb222)); clear HB; have HB := n0_; have BK222 := n1_; have GW222 := n2_; have GE222 := n3_; clear n0_ n1_ n2_ n3_; clear hb hbox hg) | ((with_reducible refine gate_dst (N := 4) rfl ?_); refine box_event ?hg (N := 4) ?hd (cs := #[.int .i64 0, .int .i64 0, .string (⟨#[]⟩ : ByteArray)]) (t := 34) ?hr ?_; (case hd => rfl); (case hg => rfl); (case hr => first | (go_simp; done) | (go_simp; rfl)); intro gb223 hg w7 hbox hb; have n0_ := mk0 (bB (g := gb222) (o := .cells #[.int .i64 0, .int .i64 0, .string (⟨#[]⟩ : ByteArray)] 34 (0, 0)) (by (with_reducible repeat (first | apply bN | apply bD | apply bA)); exact BK222.out) hb); have n1_ := mk0 (below_step (by repeat (first | (with_reducible first | exact HB.out | apply wA | apply wN | apply wD | refine wS ?_ GE222.out) | exact HB.out)) hb); have n2_ := mk0 (hbox); have n3_ := mk0 ((by rw [hg]; exact (below_size (by repeat (first | (with_reducible first | exact HB.out | apply wA | apply wN | apply wD | refine wS ?_ GE222.out) | exact HB.out))) : w.heap.size ≤ gb223)); have n4_ := mk0 ((by rw [hg]; exact (below_size (by repeat (first | (with_reducible first | exact HB.out | apply wA | apply wN | apply wD | refine wS ?_ GE222.out) | exact HB.out))) : w.heap.size ≤ gb223)); have n5_ := mk0 ((by rw [hg]; exact Nat.ne_of_lt (blk_lt (g := gb222) (o := .cells #[.int .i64 0, .int .i64 0, .string (⟨#[]⟩ : ByteArray)] 34 (0, 0)) (by (with_reducible repeat (first | apply bN | apply bD | apply bA)); exact BK222.out)) : gb222 ≠ gb223)); have n6_ := mk0 ((by rw [hg]; exact Nat.ne_of_gt (blk_lt (g := gb222) (o := .cells #[.int .i64 0, .int .i64 0, .string (⟨#[]⟩ : ByteArray)] 34 (0, 0)) (by (with_reducible repeat (first | apply bN | apply bD | apply bA)); exact BK222.out)) : gb223 ≠ gb222)); clear BK222; clear HB; have BK222 := n0_; have HB := n1_; have BK223 := n2_; have GW223 := n3_; have GE223 := n4_; have NB222_223 := n5_; have NB223_222 := n6_; clear n0_ n1_ n2_ n3_ n4_ n5_ n6_; clear hb hbox hg) | ((with_reducible refine gate_callee (f := 88) rfl ?_); refine goesL_ (some 11) rfl rfl Try.func88 (by kernel_rfl) rfl #[.slice A0 l0.length c0] rfl (by (try simp only [List.map_toArray, List.map_cons, List.map_nil]); first | done | rfl | (simp only [List.length_drop, List.length_take]; rfl)) ?_; (with_reducible refine (spec_l1Open.calls _ _ l0 t224 t225 w _ ?side1 ?side2 ?side3 A2.out).mono ?_); (case side1 => repeat (first | (with_reducible first | exact HB.out | apply wA | apply wN | apply wD | refine wS ?_ GE222.out | refine wS ?_ GE223.out) | exact HB.out)); (case side2 => exact HR0.out); (case side3 => exact HC0.out); rintro e w8 ⟨g226, rfl, hi, hb, hb2⟩; refine ⟨_, rfl, ?_⟩; have n0_ := mk0 (bB (g := gb222) (o := .cells #[.int .i64 0, .int .i64 0, .string (⟨#[]⟩ : ByteArray)] 34 (0, 0)) (by (with_reducible repeat (first | apply bN | apply bD | apply bA)); exact BK222.out) hb2); have n1_ := mk0 (bB (g := gb223) (o := .cells #[.int .i64 0, .int .i64 0, .string (⟨#[]⟩ : ByteArray)] 34 (0, 0)) (by (with_reducible repeat (first | apply bN | apply bD | apply bA)); exact BK223.out) hb2); have n2_ := mk0 (hb); have n3_ := mk0 (hi); have n4_ := mk0 (IsS145.ne_blk hi (bB (g := gb222) (o := .cells #[.int .i64 0, .int .i64 0, .string (⟨#[]⟩ : ByteArray)] 34 (0, 0)) (by (with_reducible repeat (first | apply bN | apply bD | apply bA)); exact BK222.out) hb2) (by decide)); have n5_ := mk0 (Ne.symm (IsS145.ne_blk hi (bB (g := gb222) (o := .cells #[.int .i64 0, .int .i64 0, .string (⟨#[]⟩ : ByteArray)] 34 (0, 0)) (by (with_reducible repeat (first | apply bN | apply bD | apply bA)); exact BK222.out) hb2) (by decide))); have n6_ := mk0 (IsS145.ne_blk hi (bB (g := gb223) (o := .cells #[.int .i64 0, .int .i64 0, .string (⟨#[]⟩ : ByteArray)] 34 (0, 0)) (by (with_reducible repeat (first | apply bN | apply bD | apply bA)); exact BK223.out) hb2) (by decide)); have n7_ := mk0 (Ne.symm (IsS145.ne_blk hi (bB (g := gb223) (o := .cells #[.int .i64 0, .int .i64 0, .string (⟨#[]⟩ : ByteArray)] 34 (0, 0)) (by (with_reducible repeat (first | apply bN | apply bD | apply bA)); exact BK223.out) hb2) (by decide))); clear BK222; clear BK223; clear HB; have BK222 := n0_; have BK223 := n1_; have HB := n2_; have HI226 := n3_; have NB226_222 := n4_; have NB222_226 := n5_; have NB226_223 := n6_; have NB223_226 := n7_; clear n0_ n1_ n2_ n3_ n4_ n5_ n6_ n7_; (try clear hb); (try clear hb2); (try clear hk); (try clear hi)) | ((with_reducible refine gate_callee (f := 89) rfl ?_); refine goesL_ (some 13) rfl rfl Try.func89 (by kernel_rfl) rfl #[.pointer (some ⟨g226, 0, none⟩), .int .i64 18] rfl (by (try simp only [List.map_toArray, List.map_cons, List.map_nil]); first | done | rfl | (simp only [List.length_drop, List.length_take]; rfl)) ?_; (with_reducible refine (spec_l1Rd_pick.calls k g226 t224 t225 18 t227 t228 w _ ?side1 ?side2 A3.out).mono ?_); (case side1 => repeat (first | (with_reducible first | exact HI226.out | apply IsS145.alloc | apply IsS145.drewN | apply IsS145.drew | apply IsS145.set_1 | refine IsS145.far ?_ NB226_222.out _ | refine IsS145.far ?_ NB226_223.out _) | exact HI226.out)); (case side2 => repeat (first | (with_reducible first | exact HB.out | apply wA | apply wN | apply wD | refine wS ?_ (IsS145.ge HI226.out) | refine wS ?_ GE222.out | refine wS ?_ GE223.out) | exact HB.out)); rintro e w9 ⟨rfl, hi, hb, hk⟩; refine ⟨_, rfl, ?_⟩; have n0_ := mk0 (KeepBut.blk hk (g' := gb222) (o := .cells #[.int .i64 0, .int .i64 0, .string (⟨#[]⟩ : ByteArray)] 34 (0, 0)) (by (with_reducible repeat (first | apply bN | apply bD | apply bA)); exact BK222.out) NB222_226.out (by simp)); have n1_ := mk0 (KeepBut.blk hk (g' := gb223) (o := .cells #[.int .i64 0, .int .i64 0, .string (⟨#[]⟩ : ByteArray)] 34 (0, 0)) (by (with_reducible repeat (first | apply bN | apply bD | apply bA)); exact BK223.out) NB223_226.out (by simp)); have n2_ := mk0 (hb); have n3_ := mk0 (hi); clear BK222; clear BK223; clear HB; clear HI226; have BK222 := n0_; have BK223 := n1_; have HB := n2_; have HI226 := n3_; clear n0_ n1_ n2_ n3_; (try clear hb); (try clear hb2); (try clear hk); (try clear hi)) | ((with_reducible refine gate_callee (f := 89) rfl ?_); refine goesL_ (some 16) rfl rfl Try.func89 (by kernel_rfl) rfl #[.pointer (some ⟨g226, 0, none⟩), .int .i64 8] rfl (by (try simp only [List.map_toArray, List.map_cons, List.map_nil]); first | done | rfl | (simp only [List.length_drop, List.length_take]; rfl)) ?_; (with_reducible refine (spec_l1Rd_pick.calls k g226 t224 t228 8 t229 t230 w _ ?side1 ?side2 A4.out).mono ?_); (case side1 => repeat (first | (with_reducible first | exact HI226.out | apply IsS145.alloc | apply IsS145.drewN | apply IsS145.drew | apply IsS145.set_1 | refine IsS145.far ?_ NB226_222.out _ | refine IsS145.far ?_ NB226_223.out _) | exact HI226.out)); (case side2 => repeat (first | (with_reducible first | exact HB.out | apply wA | apply wN | apply wD | refine wS ?_ (IsS145.ge HI226.out) | refine wS ?_ GE222.out | refine wS ?_ GE223.out) | exact HB.out)); rintro e w10 ⟨rfl, hi, hb, hk⟩; refine ⟨_, rfl, ?_⟩; have n0_ := mk0 (KeepBut.blk hk (g' := gb222) (o := .cells #[.int .i64 0, .int .i64 0, .string (⟨#[]⟩ : ByteArray)] 34 (0, 0)) (by (with_reducible repeat (first | apply bN | apply bD | apply bA)); exact BK222.out) NB222_226.out (by simp)); have n1_ := mk0 (KeepBut.blk hk (g' := gb223) (o := .cells #[.int .i64 0, .int .i64 0, .string (⟨#[]⟩ : ByteArray)] 34 (0, 0)) (by (with_reducible repeat (first | apply bN | apply bD | apply bA)); exact BK223.out) NB223_226.out (by simp)); have n2_ := mk0 (hb); have n3_ := mk0 (hi); clear BK222; clear BK223; clear HB; clear HI226; have BK222 := n0_; have BK223 := n1_; have HB := n2_; have HI226 := n3_; clear n0_ n1_ n2_ n3_; (try clear hb); (try clear hb2); (try clear hk); (try clear hi)))
  (try simp only [Act.put, List.setIfInBounds_toArray, List.set_cons_zero, List.set_cons_succ])
  go_cut [7] (fun v7 wc => ∃ (kq : Nat) (x7_4 : Int) (x227001_4 : Int), v7 = .int .i64 x7_4 ∧ Aside0 (spec_DrawBinary.j0 kq (wrap64 (1 + t227)) x7_4 t224 x227001_4 = some (r1, r2, r3, r4, r5, r6, r7)) ∧ Aside0 (kq ≤ k) ∧ Aside0 (wc.heap[gb222]? = some (.cells #[.int .i64 0, .int .i64 0, .string (⟨#[]⟩ : ByteArray)] 34 (0, 0))) ∧ Aside0 (wc.heap[gb223]? = some (.cells #[.int .i64 0, .int .i64 0, .string (⟨#[]⟩ : ByteArray)] 34 (0, 0))) ∧ Aside0 (IsS145 w wc g226 t224 x227001_4) ∧ Aside0 (Below w.heap.size w wc))
  case first =>
    have H := HC5.out
    clear HC5
    by_cases c11 : (wrap64 (1 + t227)) ≤ 2
    · rw [if_pos c11] at H
      have c11b0 : decide ((wrap64 (1 + t227)) ≤ 2) = true := decide_eq_true c11
      clear c11
      (first | rw [c11b0] | (simp only [i64_w, i32_w]; rw [c11b0]) | rw [c11b4] | rw [c11b3] | skip)
      have H' := mk0 H
      clear H
      go_wp2
      go_meet
      case rel => exact ⟨_, (1), (t230), (by first | rfl | (simp; done) | (simp [*]; done)), H', ⟨by first | omega | exact Nat.le_refl _⟩, ⟨by (with_reducible repeat (first | apply bN | apply bD | apply bA)); exact BK222.out⟩, ⟨by (with_reducible repeat (first | apply bN | apply bD | apply bA)); exact BK223.out⟩, ⟨by repeat (first | (with_reducible first | exact HI226.out | apply IsS145.alloc | apply IsS145.drewN | apply IsS145.drew | apply IsS145.set_1 | refine IsS145.far ?_ NB226_222.out _ | refine IsS145.far ?_ NB226_223.out _) | exact HI226.out)⟩, ⟨by repeat (first | (with_reducible first | exact HB.out | apply wA | apply wN | apply wD | refine wS ?_ (IsS145.ge HI226.out) | refine wS ?_ GE222.out | refine wS ?_ GE223.out) | exact HB.out)⟩⟩
    rw [if_neg c11] at H
    have c11b0 : decide ((wrap64 (1 + t227)) ≤ 2) = false := decide_eq_false c11
    clear c11
    (first | rw [c11b0] | (simp only [i64_w, i32_w]; rw [c11b0]) | rw [c11b4] | rw [c11b3] | skip)
    by_cases c12 : (wrap64 (1 + t227)) ≤ 9
    · rw [if_pos c12] at H
      have c12b0 : decide ((wrap64 (1 + t227)) ≤ 9) = true := decide_eq_true c12
      clear c12
      replace H := Option.bind_eq_some_iff.mp H
      obtain ⟨⟨t231, t232⟩, A130, H⟩ := H
      replace H : (if t231 = 0 then (spec_DrawBinary.j0 k (wrap64 (1 + t227)) 2 t224 t232) else (spec_DrawBinary.j0 k (wrap64 (1 + t227)) (wrap64 (3 + t229)) t224 t232)) = some (r1, r2, r3, r4, r5, r6, r7) := H
      have A13 := mk0 A130
      clear A130
      by_cases c14 : t231 = 0
      · rw [if_pos c14] at H
        have c14b0 : (t231 == 0) = true := beq_iff_eq.mpr c14
        have c14b1 : (t231 != 0) = false := bne_eq_false_iff_eq.mpr c14
        clear c14
        have H' := mk0 H
        clear H
        go_wp2_with (first | (go_at_call 89; (with_reducible refine (spec_l1Rd_pick.calls k g226 t224 t230 3 t231 t232 w _ ?side1 ?side2 A13.out).mono ?_); (case side1 => repeat (first | (with_reducible first | exact HI226.out | apply IsS145.alloc | apply IsS145.drewN | apply IsS145.drew | apply IsS145.set_1 | refine IsS145.far ?_ NB226_222.out _ | refine IsS145.far ?_ NB226_223.out _) | exact HI226.out)); (case side2 => repeat (first | (with_reducible first | exact HB.out | apply wA | apply wN | apply wD | refine wS ?_ (IsS145.ge HI226.out) | refine wS ?_ GE222.out | refine wS ?_ GE223.out) | exact HB.out)); rintro e w15 ⟨rfl, hi, hb, hk⟩; have n0_ := mk0 (KeepBut.blk hk (g' := gb222) (o := .cells #[.int .i64 0, .int .i64 0, .string (⟨#[]⟩ : ByteArray)] 34 (0, 0)) (by (with_reducible repeat (first | apply bN | apply bD | apply bA)); exact BK222.out) NB222_226.out (by simp)); have n1_ := mk0 (KeepBut.blk hk (g' := gb223) (o := .cells #[.int .i64 0, .int .i64 0, .string (⟨#[]⟩ : ByteArray)] 34 (0, 0)) (by (with_reducible repeat (first | apply bN | apply bD | apply bA)); exact BK223.out) NB223_226.out (by simp)); have n2_ := mk0 (hb); have n3_ := mk0 (hi); clear BK222; clear BK223; clear HB; clear HI226; have BK222 := n0_; have BK223 := n1_; have HB := n2_; have HI226 := n3_; clear n0_ n1_ n2_ n3_; (try clear hb); (try clear hb2); (try clear hk); (try clear hi)))
        go_meet
        case rel => exact ⟨_, (2), (t232), (by first | rfl | (simp; done) | (simp [*]; done)), H', ⟨by first | omega | exact Nat.le_refl _⟩, ⟨by (with_reducible repeat (first | apply bN | apply bD | apply bA)); exact BK222.out⟩, ⟨by (with_reducible repeat (first | apply bN | apply bD | apply bA)); exact BK223.out⟩, ⟨by repeat (first | (with_reducible first | exact HI226.out | apply IsS145.alloc | apply IsS145.drewN | apply IsS145.drew | apply IsS145.set_1 | refine IsS145.far ?_ NB226_222.out _ | refine IsS145.far ?_ NB226_223.out _) | exact HI226.out)⟩, ⟨by repeat (first | (with_reducible first | exact HB.out | apply wA | apply wN | apply wD | refine wS ?_ (IsS145.ge HI226.out) | refine wS ?_ GE222.out | refine wS ?_ GE223.out) | exact HB.out)⟩⟩
      rw [if_neg c14] at H
      have c14b0 : (t231 == 0) = false := beq_eq_false_iff_ne.mpr c14
      have c14b1 : (t231 != 0) = true := bne_iff_ne.mpr c14
      have H' := mk0 H
      clear H
      go_wp2_with (first | (go_at_call 89; (with_reducible refine (spec_l1Rd_pick.calls k g226 t224 t230 3 t231 t232 w _ ?side1 ?side2 A13.out).mono ?_); (case side1 => repeat (first | (with_reducible first | exact HI226.out | apply IsS145.alloc | apply IsS145.drewN | apply IsS145.drew | apply IsS145.set_1 | refine IsS145.far ?_ NB226_222.out _ | refine IsS145.far ?_ NB226_223.out _) | exact HI226.out)); (case side2 => repeat (first | (with_reducible first | exact HB.out | apply wA | apply wN | apply wD | refine wS ?_ (IsS145.ge HI226.out) | refine wS ?_ GE222.out | refine wS ?_ GE223.out) | exact HB.out)); rintro e w16 ⟨rfl, hi, hb, hk⟩; have n0_ := mk0 (KeepBut.blk hk (g' := gb222) (o := .cells #[.int .i64 0, .int .i64 0, .string (⟨#[]⟩ : ByteArray)] 34 (0, 0)) (by (with_reducible repeat (first | apply bN | apply bD | apply bA)); exact BK222.out) NB222_226.out (by simp)); have n1_ := mk0 (KeepBut.blk hk (g' := gb223) (o := .cells #[.int .i64 0, .int .i64 0, .string (⟨#[]⟩ : ByteArray)] 34 (0, 0)) (by (with_reducible repeat (first | apply bN | apply bD | apply bA)); exact BK223.out) NB223_226.out (by simp)); have n2_ := mk0 (hb); have n3_ := mk0 (hi); clear BK222; clear BK223; clear HB; clear HI226; have BK222 := n0_; have BK223 := n1_; have HB := n2_; have HI226 := n3_; clear n0_ n1_ n2_ n3_; (try clear hb); (try clear hb2); (try clear hk); (try clear hi)))
      go_meet
      case rel => exact ⟨_, (wrap64 (3 + t229)), (t232), (by first | rfl | (simp; done) | (simp [*]; done)), H', ⟨by first | omega | exact Nat.le_refl _⟩, ⟨by (with_reducible repeat (first | apply bN | apply bD | apply bA)); exact BK222.out⟩, ⟨by (with_reducible repeat (first | apply bN | apply bD | apply bA)); exact BK223.out⟩, ⟨by repeat (first | (with_reducible first | exact HI226.out | apply IsS145.alloc | apply IsS145.drewN | apply IsS145.drew | apply IsS145.set_1 | refine IsS145.far ?_ NB226_222.out _ | refine IsS145.far ?_ NB226_223.out _) | exact HI226.out)⟩, ⟨by repeat (first | (with_reducible first | exact HB.out | apply wA | apply wN | apply wD | refine wS ?_ (IsS145.ge HI226.out) | refine wS ?_ GE222.out | refine wS ?_ GE223.out) | exact HB.out)⟩⟩
    rw [if_neg c12] at H
    have c12b0 : decide ((wrap64 (1 + t227)) ≤ 9) = false := decide_eq_false c12
    clear c12
    have H' := mk0 H
    clear H
    go_wp2
    go_meet
    case rel => exact ⟨_, (wrap64 (3 + t229)), (t230), (by first | rfl | (simp; done) | (simp [*]; done)), H', ⟨by first | omega | exact Nat.le_refl _⟩, ⟨by (with_reducible repeat (first | apply bN | apply bD | apply bA)); exact BK222.out⟩, ⟨by (with_reducible repeat (first | apply bN | apply bD | apply bA)); exact BK223.out⟩, ⟨by repeat (first | (with_reducible first | exact HI226.out | apply IsS145.alloc | apply IsS145.drewN | apply IsS145.drew | apply IsS145.set_1 | refine IsS145.far ?_ NB226_222.out _ | refine IsS145.far ?_ NB226_223.out _) | exact HI226.out)⟩, ⟨by repeat (first | (with_reducible first | exact HB.out | apply wA | apply wN | apply wD | refine wS ?_ (IsS145.ge HI226.out) | refine wS ?_ GE222.out | refine wS ?_ GE223.out) | exact HB.out)⟩⟩
  clear HC5
  try clear c1
  try clear p2
  try clear c5
  try clear p6
  try clear c8
  try clear c11
  try clear c11b0
  try clear c12
  try clear c12b0
  try clear c14
  try clear c14b0
  try clear c14b1
  obtain ⟨kq, x7_4, x227001_4, rfl, HA, HJ4, BK222, BK223, HI226, HB⟩ := hcut
  cases kq with
  | zero => exact absurd HA.out (by simp [spec_DrawBinary.j0])
  | succ kj4 =>
  have H := HA.out
  clear HA
  simp only [spec_DrawBinary.j0] at H
  replace H := Option.bind_eq_some_iff.mp H
  obtain ⟨⟨t233, t234, t235, t236⟩, A170, H⟩ := H
  replace H : ((spec_l1Rd_pick.f kj4 t224 t236 16).bind fun bt238 => (if bt238.1 = 0 then ((spec_l1Rd_pick.f kj4 t224 bt238.2 10).bind fun bt240 => (spec_DrawBinary.j1 kj4 (wrap64 (1 + t227)) (wrap64 (1 + bt240.1)) t224 bt240.2 t233 t234 t235)) else (spec_DrawBinary.j1 kj4 (wrap64 (1 + t227)) x7_4 t224 bt238.2 t233 t234 t235))) = some (r1, r2, r3, r4, r5, r6, r7) := H
  have A17 := mk0 A170
  clear A170
  replace H := Option.bind_eq_some_iff.mp H
  obtain ⟨⟨t238, t239⟩, A180, H⟩ := H
  replace H : (if t238 = 0 then ((spec_l1Rd_pick.f kj4 t224 t239 10).bind fun bt240 => (spec_DrawBinary.j1 kj4 (wrap64 (1 + t227)) (wrap64 (1 + bt240.1)) t224 bt240.2 t233 t234 t235)) else (spec_DrawBinary.j1 kj4 (wrap64 (1 + t227)) x7_4 t224 t239 t233 t234 t235)) = some (r1, r2, r3, r4, r5, r6, r7) := H
  have A18 := mk0 A180
  clear A180
  have HC19 := mk0 H
  clear H
  go_upto_if 32 with (first | ((with_reducible refine gate_callee (f := 90) rfl ?_); refine goesL_ (some 29) rfl rfl Try.func90 (by kernel_rfl) rfl #[.pointer (some ⟨g226, 0, none⟩), .int .i64 x7_4] rfl (by (try simp only [List.map_toArray, List.map_cons, List.map_nil]); first | done | rfl | (simp only [List.length_drop, List.length_take]; rfl)) ?_; (with_reducible refine (spec_l4Any.calls kj4 g226 t224 x227001_4 x7_4 t233 t234 t235 t236 w _ ?side1 ?side2 A17.out).mono ?_); (case side1 => repeat (first | (with_reducible first | exact HI226.out | apply IsS145.alloc | apply IsS145.drewN | apply IsS145.drew | apply IsS145.set_1 | refine IsS145.far ?_ NB226_222.out _ | refine IsS145.far ?_ NB226_223.out _) | exact HI226.out)); (case side2 => repeat (first | (with_reducible first | exact HB.out | apply wA | apply wN | apply wD | refine wS ?_ (IsS145.ge HI226.out) | refine wS ?_ GE222.out | refine wS ?_ GE223.out) | exact HB.out)); rintro e w20 ⟨rfl, hi, hb, hk⟩; refine ⟨_, rfl, ?_⟩; have n0_ := mk0 (KeepBut.blk hk (g' := gb222) (o := .cells #[.int .i64 0, .int .i64 0, .string (⟨#[]⟩ : ByteArray)] 34 (0, 0)) (by (with_reducible repeat (first | apply bN | apply bD | apply bA)); exact BK222.out) NB222_226.out (by simp)); have n1_ := mk0 (KeepBut.blk hk (g' := gb223) (o := .cells #[.int .i64 0, .int .i64 0, .string (⟨#[]⟩ : ByteArray)] 34 (0, 0)) (by (with_reducible repeat (first | apply bN | apply bD | apply bA)); exact BK223.out) NB223_226.out (by simp)); have n2_ := mk0 (hb); have n3_ := mk0 (hi); clear BK222; clear BK223; clear HB; clear HI226; have BK222 := n0_; have BK223 := n1_; have HB := n2_; have HI226 := n3_; clear n0_ n1_ n2_ n3_; (try clear hb); (try clear hb2); (try clear hk); (try clear hi)) | ((with_reducible refine gate_dst (N := 8) rfl ?_); refine box_event ?hg (N := 8) ?hd (cs := #[.int .i64 0, .int .i64 0, .string (⟨#[]⟩ : ByteArray)]) (t := 34) ?hr ?_; (case hd => rfl); (case hg => rfl); (case hr => first | (go_simp; done) | (go_simp; rfl)); intro gb237 hg w21 hbox hb; have n0_ := mk0 (bB (g := gb222) (o := .cells #[.int .i64 0, .int .i64 0, .string (⟨#[]⟩ : ByteArray)] 34 (0, 0)) (by (with_reducible repeat (first | apply bN | apply bD | apply bA)); exact BK222.out) hb); have n1_ := mk0 (bB (g := gb223) (o := .cells #[.int .i64 0, .int .i64 0, .string (⟨#[]⟩ : ByteArray)] 34 (0, 0)) (by (with_reducible repeat (first | apply bN | apply bD | apply bA)); exact BK223.out) hb); have n2_ := mk0 (IsS145.below (by repeat (first | (with_reducible first | exact HI226.out | apply IsS145.alloc | apply IsS145.drewN | apply IsS145.drew | apply IsS145.set_1 | refine IsS145.far ?_ NB226_222.out _ | refine IsS145.far ?_ NB226_223.out _) | exact HI226.out)) hb); have n3_ := mk0 (below_step (by repeat (first | (with_reducible first | exact HB.out | apply wA | apply wN | apply wD | refine wS ?_ (IsS145.ge HI226.out) | refine wS ?_ GE222.out | refine wS ?_ GE223.out) | exact HB.out)) hb); have n4_ := mk0 (hbox); have n5_ := mk0 ((by rw [hg]; exact (below_size (by repeat (first | (with_reducible first | exact HB.out | apply wA | apply wN | apply wD | refine wS ?_ (IsS145.ge HI226.out) | refine wS ?_ GE222.out | refine wS ?_ GE223.out) | exact HB.out))) : w.heap.size ≤ gb237)); have n6_ := mk0 ((by rw [hg]; exact (below_size (by repeat (first | (with_reducible first | exact HB.out | apply wA | apply wN | apply wD | refine wS ?_ (IsS145.ge HI226.out) | refine wS ?_ GE222.out | refine wS ?_ GE223.out) | exact HB.out))) : w.heap.size ≤ gb237)); have n7_ := mk0 ((by rw [hg]; exact Nat.ne_of_lt (blk_lt (g := gb222) (o := .cells #[.int .i64 0, .int .i64 0, .string (⟨#[]⟩ : ByteArray)] 34 (0, 0)) (by (with_reducible repeat (first | apply bN | apply bD | apply bA)); exact BK222.out)) : gb222 ≠ gb237)); have n8_ := mk0 ((by rw [hg]; exact Nat.ne_of_gt (blk_lt (g := gb222) (o := .cells #[.int .i64 0, .int .i64 0, .string (⟨#[]⟩ : ByteArray)] 34 (0, 0)) (by (with_reducible repeat (first | apply bN | apply bD | apply bA)); exact BK222.out)) : gb237 ≠ gb222)); have n9_ := mk0 ((by rw [hg]; exact Nat.ne_of_lt (blk_lt (g := gb223) (o := .cells #[.int .i64 0, .int .i64 0, .string (⟨#[]⟩ : ByteArray)] 34 (0, 0)) (by (with_reducible repeat (first | apply bN | apply bD | apply bA)); exact BK223.out)) : gb223 ≠ gb237)); have n10_ := mk0 ((by rw [hg]; exact Nat.ne_of_gt (blk_lt (g := gb223) (o := .cells #[.int .i64 0, .int .i64 0, .string (⟨#[]⟩ : ByteArray)] 34 (0, 0)) (by (with_reducible repeat (first | apply bN | apply bD | apply bA)); exact BK223.out)) : gb237 ≠ gb223)); have n11_ := mk0 ((by rw [hg]; exact Nat.ne_of_lt (IsS145.lt (show IsS145 w _ g226 t224 t236 from by repeat (first | (with_reducible first | exact HI226.out | apply IsS145.alloc | apply IsS145.drewN | apply IsS145.drew | apply IsS145.set_1 | refine IsS145.far ?_ NB226_222.out _ | refine IsS145.far ?_ NB226_223.out _) | exact HI226.out))) : g226 ≠ gb237)); have n12_ := mk0 ((by rw [hg]; exact Nat.ne_of_gt (IsS145.lt (show IsS145 w _ g226 t224 t236 from by repeat (first | (with_reducible first | exact HI226.out | apply IsS145.alloc | apply IsS145.drewN | apply IsS145.drew | apply IsS145.set_1 | refine IsS145.far ?_ NB226_222.out _ | refine IsS145.far ?_ NB226_223.out _) | exact HI226.out))) : gb237 ≠ g226)); clear BK222; clear BK223; clear HI226; clear HB; have BK222 := n0_; have BK223 := n1_; have HI226 := n2_; have HB := n3_; have BK237 := n4_; have GW237 := n5_; have GE237 := n6_; have NB222_237 := n7_; have NB237_222 := n8_; have NB223_237 := n9_; have NB237_223 := n10_; have NB226_237 := n11_; have NB237_226 := n12_; clear n0_ n1_ n2_ n3_ n4_ n5_ n6_ n7_ n8_ n9_ n10_ n11_ n12_; clear hb hbox hg; have hnb22 := NB237_222.out; have hnc22 := NB222_237.out; have hnb23 := NB237_223.out; have hnc23 := NB223_237.out; have hnb24 := NB237_226.out; have hnc24 := NB226_237.out; have hcz25_0 : w21.cell? ⟨gb237, 0, none⟩ = some (.int .i64 0) := (bC BK237.out 0).trans rfl; have hcz25_1 : w21.cell? ⟨gb237, 1, none⟩ = some (.int .i64 0) := (bC BK237.out 1).trans rfl; have hcz25_2 : w21.cell? ⟨gb237, 2, none⟩ = some (.string (⟨#[]⟩ : ByteArray)) := (bC BK237.out 2).trans rfl; have hfz25_0 := bF BK237.out 0; have hfz25_1 := bF BK237.out 1; have hfz25_2 := bF BK237.out 2) | ((with_reducible refine gate_callee (f := 89) rfl ?_); refine goesL_ (some 31) rfl rfl Try.func89 (by kernel_rfl) rfl #[.pointer (some ⟨g226, 0, none⟩), .int .i64 16] rfl (by (try simp only [List.map_toArray, List.map_cons, List.map_nil]); first | done | rfl | (simp only [List.length_drop, List.length_take]; rfl)) ?_; (with_reducible refine (spec_l1Rd_pick.calls kj4 g226 t224 t236 16 t238 t239 w _ ?side1 ?side2 A18.out).mono ?_); (case side1 => repeat (first | (with_reducible first | exact HI226.out | apply IsS145.alloc | apply IsS145.drewN | apply IsS145.drew | apply IsS145.set_1 | refine IsS145.far ?_ NB226_222.out _ | refine IsS145.far ?_ NB226_223.out _ | refine IsS145.far ?_ NB226_237.out _) | exact HI226.out)); (case side2 => repeat (first | (with_reducible first | exact HB.out | apply wA | apply wN | apply wD | refine wS ?_ (IsS145.ge HI226.out) | refine wS ?_ GE222.out | refine wS ?_ GE223.out | refine wS ?_ GE237.out) | exact HB.out)); rintro e w26 ⟨rfl, hi, hb, hk⟩; refine ⟨_, rfl, ?_⟩; have n0_ := mk0 (KeepBut.blk hk (g' := gb222) (o := .cells #[.int .i64 0, .int .i64 0, .string (⟨#[]⟩ : ByteArray)] 34 (0, 0)) (by (with_reducible repeat (first | apply bN | apply bD | apply bA)); refine blk_far ?_ NB222_237.out _; (with_reducible repeat (first | apply bN | apply bD | apply bA)); refine blk_far ?_ NB222_237.out _; (with_reducible repeat (first | apply bN | apply bD | apply bA)); refine blk_far ?_ NB222_237.out _; (with_reducible repeat (first | apply bN | apply bD | apply bA)); exact BK222.out) NB222_226.out (by simp)); have n1_ := mk0 (KeepBut.blk hk (g' := gb223) (o := .cells #[.int .i64 0, .int .i64 0, .string (⟨#[]⟩ : ByteArray)] 34 (0, 0)) (by (with_reducible repeat (first | apply bN | apply bD | apply bA)); refine blk_far ?_ NB223_237.out _; (with_reducible repeat (first | apply bN | apply bD | apply bA)); refine blk_far ?_ NB223_237.out _; (with_reducible repeat (first | apply bN | apply bD | apply bA)); refine blk_far ?_ NB223_237.out _; (with_reducible repeat (first | apply bN | apply bD | apply bA)); exact BK223.out) NB223_226.out (by simp)); have n2_ := mk0 (KeepBut.blk hk (g' := gb237) (o := .cells #[.int .i64 t233, .int .i64 t234, .string t235] 34 (0, 0)) (by (with_reducible repeat (first | apply bN | apply bD | apply bA)); refine blk_put (cs := #[.int .i64 t233, .int .i64 t234, .string (⟨#[]⟩ : ByteArray)]) ?_ 2 _ rfl; (with_reducible repeat (first | apply bN | apply bD | apply bA)); refine blk_put (cs := #[.int .i64 t233, .int .i64 0, .string (⟨#[]⟩ : ByteArray)]) ?_ 1 _ rfl; (with_reducible repeat (first | apply bN | apply bD | apply bA)); refine blk_put (cs := #[.int .i64 0, .int .i64 0, .string (⟨#[]⟩ : ByteArray)]) ?_ 0 _ rfl; (with_reducible repeat (first | apply bN | apply bD | apply bA)); exact BK237.out) NB237_226.out (by simp)); have n3_ := mk0 (hb); have n4_ := mk0 (hi); clear BK222; clear BK223; clear BK237; clear HB; clear HI226; have BK222 := n0_; have BK223 := n1_; have BK237 := n2_; have HB := n3_; have HI226 := n4_; clear n0_ n1_ n2_ n3_ n4_; (try clear hb); (try clear hb2); (try clear hk); (try clear hi)))
  (try simp only [Act.put, List.setIfInBounds_toArray, List.set_cons_zero, List.set_cons_succ])
  go_cut [7] (fun v7 wc => ∃ (kq : Nat) (x7_18 : Int) (x227001_18 : Int), v7 = .int .i64 x7_18 ∧ Aside0 (spec_DrawBinary.j1 kq (wrap64 (1 + t227)) x7_18 t224 x227001_18 t233 t234 t235 = some (r1, r2, r3, r4, r5, r6, r7)) ∧ Aside0 (kq ≤ kj4) ∧ Aside0 (wc.heap[gb222]? = some (.cells #[.int .i64 0, .int .i64 0, .string (⟨#[]⟩ : ByteArray)] 34 (0, 0))) ∧ Aside0 (wc.heap[gb223]? = some (.cells #[.int .i64 0, .int .i64 0, .string (⟨#[]⟩ : ByteArray)] 34 (0, 0))) ∧ Aside0 (wc.heap[gb237]? = some (.cells #[.int .i64 t233, .int .i64 t234, .string t235] 34 (0, 0))) ∧ Aside0 (IsS145 w wc g226 t224 x227001_18) ∧ Aside0 (Below w.heap.size w wc))
  case first =>
    have H := HC19.out
    clear HC19
    by_cases c27 : t238 = 0
    · rw [if_pos c27] at H
      have c27b0 : (t238 == 0) = true := beq_iff_eq.mpr c27
      have c27b1 : (t238 != 0) = false := bne_eq_false_iff_eq.mpr c27
      clear c27
      (first | rw [c27b0] | (simp only [i64_w, i32_w]; rw [c27b0]) | rw [c27b4] | rw [c27b3] | skip)
      replace H := Option.bind_eq_some_iff.mp H
      obtain ⟨⟨t240, t241⟩, A280, H⟩ := H
      replace H : (spec_DrawBinary.j1 kj4 (wrap64 (1 + t227)) (wrap64 (1 + t240)) t224 t241 t233 t234 t235) = some (r1, r2, r3, r4, r5, r6, r7) := H
      have A28 := mk0 A280
      clear A280
      have H' := mk0 H
      clear H
      go_wp2_with (first | ((with_reducible refine gate_callee (f := 89) rfl ?_); refine goesL_ (some 34) rfl rfl Try.func89 (by kernel_rfl) rfl #[.pointer (some ⟨g226, 0, none⟩), .int .i64 10] rfl (by (try simp only [List.map_toArray, List.map_cons, List.map_nil]); first | done | rfl | (simp only [List.length_drop, List.length_take]; rfl)) ?_; (with_reducible refine (spec_l1Rd_pick.calls kj4 g226 t224 t239 10 t240 t241 w _ ?side1 ?side2 A28.out).mono ?_); (case side1 => repeat (first | (with_reducible first | exact HI226.out | apply IsS145.alloc | apply IsS145.drewN | apply IsS145.drew | apply IsS145.set_1 | refine IsS145.far ?_ NB226_222.out _ | refine IsS145.far ?_ NB226_223.out _ | refine IsS145.far ?_ NB226_237.out _) | exact HI226.out)); (case side2 => repeat (first | (with_reducible first | exact HB.out | apply wA | apply wN | apply wD | refine wS ?_ (IsS145.ge HI226.out) | refine wS ?_ GE222.out | refine wS ?_ GE223.out | refine wS ?_ GE237.out) | exact HB.out)); rintro e w29 ⟨rfl, hi, hb, hk⟩; refine ⟨_, rfl, ?_⟩; have n0_ := mk0 (KeepBut.blk hk (g' := gb222) (o := .cells #[.int .i64 0, .int .i64 0, .string (⟨#[]⟩ : ByteArray)] 34 (0, 0)) (by (with_reducible repeat (first | apply bN | apply bD | apply bA)); exact BK222.out) NB222_226.out (by simp)); have n1_ := mk0 (KeepBut.blk hk (g' := gb223) (o := .cells #[.int .i64 0, .int .i64 0, .string (⟨#[]⟩ : ByteArray)] 34 (0, 0)) (by (with_reducible repeat (first | apply bN | apply bD | apply bA)); exact BK223.out) NB223_226.out (by simp)); have n2_ := mk0 (KeepBut.blk hk (g' := gb237) (o := .cells #[.int .i64 t233, .int .i64 t234, .string t235] 34 (0, 0)) (by (with_reducible repeat (first | apply bN | apply bD | apply bA)); exact BK237.out) NB237_226.out (by simp)); have n3_ := mk0 (hb); have n4_ := mk0 (hi); clear BK222; clear BK223; clear BK237; clear HB; clear HI226; have BK222 := n0_; have BK223 := n1_; have BK237 := n2_; have HB := n3_; have HI226 := n4_; clear n0_ n1_ n2_ n3_ n4_; (try clear hb); (try clear hb2); (try clear hk); (try clear hi)))
      go_meet
      case rel => exact ⟨_, (wrap64 (1 + t240)), (t241), (by first | rfl | (simp; done) | (simp [*]; done)), H', ⟨by have := HJ4.out; first | omega | exact Nat.le_refl _⟩, ⟨by (with_reducible repeat (first | apply bN | apply bD | apply bA)); exact BK222.out⟩, ⟨by (with_reducible repeat (first | apply bN | apply bD | apply bA)); exact BK223.out⟩, ⟨by (with_reducible repeat (first | apply bN | apply bD | apply bA)); exact BK237.out⟩, ⟨by repeat (first | (with_reducible first | exact HI226.out | apply IsS145.alloc | apply IsS145.drewN | apply IsS145.drew | apply IsS145.set_1 | refine IsS145.far ?_ NB226_222.out _ | refine IsS145.far ?_ NB226_223.out _ | refine IsS145.far ?_ NB226_237.out _) | exact HI226.out)⟩, ⟨by repeat (first | (with_reducible first | exact HB.out | apply wA | apply wN | apply wD | refine wS ?_ (IsS145.ge HI226.out) | refine wS ?_ GE222.out | refine wS ?_ GE223.out | refine wS ?_ GE237.out) | exact HB.out)⟩⟩
    rw [if_neg c27] at H
    have c27b0 : (t238 == 0) = false := beq_eq_false_iff_ne.mpr c27
    have c27b1 : (t238 != 0) = true := bne_iff_ne.mpr c27
    (first | rw [c27b0] | (simp only [i64_w, i32_w]; rw [c27b0]) | rw [c27b4] | rw [c27b3] | skip)
    have H' := mk0 H
    clear H
    go_wp2
    go_meet
    case rel => exact ⟨_, (x7_4), (t239), (by first | rfl | (simp; done) | (simp [*]; done)), H', ⟨by have := HJ4.out; first | omega | exact Nat.le_refl _⟩, ⟨by (with_reducible repeat (first | apply bN | apply bD | apply bA)); exact BK222.out⟩, ⟨by (with_reducible repeat (first | apply bN | apply bD | apply bA)); exact BK223.out⟩, ⟨by (with_reducible repeat (first | apply bN | apply bD | apply bA)); exact BK237.out⟩, ⟨by repeat (first | (with_reducible first | exact HI226.out | apply IsS145.alloc | apply IsS145.drewN | apply IsS145.drew | apply IsS145.set_1 | refine IsS145.far ?_ NB226_222.out _ | refine IsS145.far ?_ NB226_223.out _ | refine IsS145.far ?_ NB226_237.out _) | exact HI226.out)⟩, ⟨by repeat (first | (with_reducible first | exact HB.out | apply wA | apply wN | apply wD | refine wS ?_ (IsS145.ge HI226.out) | refine wS ?_ GE222.out | refine wS ?_ GE223.out | refine wS ?_ GE237.out) | exact HB.out)⟩⟩
  clear HC19
  try clear c1
  try clear c2
  try clear p2
  try clear c5
  try clear p6
  try clear c8
  try clear c9
  try clear c11
  try clear c11b0
  try clear c12
  try clear c12b0
  try clear c14
  try clear c14b0
  try clear c14b1
  try clear c22
  try clear c23
  try clear c24
  try clear c27
  try clear c27b0
  try clear c27b1
  try clear hcz25_0
  try clear hcz25_1
  try clear hcz25_2
  try clear hfz25_0
  try clear hfz25_1
  try clear hfz25_2
  try clear p2
  try clear p6
  obtain ⟨kq, x7_18, x227001_18, rfl, HA, HJ18, BK222, BK223, BK237, HI226, HB⟩ := hcut
  cases kq with
  | zero => exact absurd HA.out (by simp [spec_DrawBinary.j1])
  | succ kj18 =>
  have H := HA.out
  clear HA
  simp only [spec_DrawBinary.j1] at H
  replace H := Option.bind_eq_some_iff.mp H
  obtain ⟨⟨t242, t243, t244, t245⟩, A300, H⟩ := H
  replace H : (if (wrap64 (1 + t227)) ≥ 17 then ((spec_l1Integer.f t242).bind fun t247 => (if t247 = true then ((spec_l1Rd_pick.f kj18 t224 t245 2).bind fun bt248 => (spec_DrawBinary.j2 kj18 (wrap64 (1 + t227)) x7_18 (bt248.1 == 0) t224 bt248.2 t233 t234 t235 t242 t243 t244)) else (spec_DrawBinary.j2 kj18 (wrap64 (1 + t227)) x7_18 false t224 t245 t233 t234 t235 t242 t243 t244))) else (spec_DrawBinary.j2 kj18 (wrap64 (1 + t227)) x7_18 false t224 t245 t233 t234 t235 t242 t243 t244)) = some (r1, r2, r3, r4, r5, r6, r7) := H
  have A30 := mk0 A300
  clear A300
  have HC31 := mk0 H
  clear H
  go_upto_region 12 with (first | ((with_reducible refine gate_callee (f := 90) rfl ?_); refine goesL_ (some 38) rfl rfl Try.func90 (by kernel_rfl) rfl #[.pointer (some ⟨g226, 0, none⟩), .int .i64 x7_18] rfl (by (try simp only [List.map_toArray, List.map_cons, List.map_nil]); first | done | rfl | (simp only [List.length_drop, List.length_take]; rfl)) ?_; (with_reducible refine (spec_l4Any.calls kj18 g226 t224 x227001_18 x7_18 t242 t243 t244 t245 w _ ?side1 ?side2 A30.out).mono ?_); (case side1 => repeat (first | (with_reducible first | exact HI226.out | apply IsS145.alloc | apply IsS145.drewN | apply IsS145.drew | apply IsS145.set_1 | refine IsS145.far ?_ NB226_222.out _ | refine IsS145.far ?_ NB226_223.out _ | refine IsS145.far ?_ NB226_237.out _) | exact HI226.out)); (case side2 => repeat (first | (with_reducible first | exact HB.out | apply wA | apply wN | apply wD | refine wS ?_ (IsS145.ge HI226.out) | refine wS ?_ GE222.out | refine wS ?_ GE223.out | refine wS ?_ GE237.out) | exact HB.out)); rintro e w32 ⟨rfl, hi, hb, hk⟩; refine ⟨_, rfl, ?_⟩; have n0_ := mk0 (KeepBut.blk hk (g' := gb222) (o := .cells #[.int .i64 0, .int .i64 0, .string (⟨#[]⟩ : ByteArray)] 34 (0, 0)) (by (with_reducible repeat (first | apply bN | apply bD | apply bA)); exact BK222.out) NB222_226.out (by simp)); have n1_ := mk0 (KeepBut.blk hk (g' := gb223) (o := .cells #[.int .i64 0, .int .i64 0, .string (⟨#[]⟩ : ByteArray)] 34 (0, 0)) (by (with_reducible repeat (first | apply bN | apply bD | apply bA)); exact BK223.out) NB223_226.out (by simp)); have n2_ := mk0 (KeepBut.blk hk (g' := gb237) (o := .cells #[.int .i64 t233, .int .i64 t234, .string t235] 34 (0, 0)) (by (with_reducible repeat (first | apply bN | apply bD | apply bA)); exact BK237.out) NB237_226.out (by simp)); have n3_ := mk0 (hb); have n4_ := mk0 (hi); clear BK222; clear BK223; clear BK237; clear HB; clear HI226; have BK222 := n0_; have BK223 := n1_; have BK237 := n2_; have HB := n3_; have HI226 := n4_; clear n0_ n1_ n2_ n3_ n4_; (try clear hb); (try clear hb2); (try clear hk); (try clear hi)) | ((with_reducible refine gate_dst (N := 9) rfl ?_); refine box_event ?hg (N := 9) ?hd (cs := #[.int .i64 0, .int .i64 0, .string (⟨#[]⟩ : ByteArray)]) (t := 34) ?hr ?_; (case hd => rfl); (case hg => rfl); (case hr => first | (go_simp; done) | (go_simp; rfl)); intro gb246 hg w33 hbox hb; have n0_ := mk0 (bB (g := gb222) (o := .cells #[.int .i64 0, .int .i64 0, .string (⟨#[]⟩ : ByteArray)] 34 (0, 0)) (by (with_reducible repeat (first | apply bN | apply bD | apply bA)); exact BK222.out) hb); have n1_ := mk0 (bB (g := gb223) (o := .cells #[.int .i64 0, .int .i64 0, .string (⟨#[]⟩ : ByteArray)] 34 (0, 0)) (by (with_reducible repeat (first | apply bN | apply bD | apply bA)); exact BK223.out) hb); have n2_ := mk0 (bB (g := gb237) (o := .cells #[.int .i64 t233, .int .i64 t234, .string t235] 34 (0, 0)) (by (with_reducible repeat (first | apply bN | apply bD | apply bA)); exact BK237.out) hb); have n3_ := mk0 (IsS145.below (by repeat (first | (with_reducible first | exact HI226.out | apply IsS145.alloc | apply IsS145.drewN | apply IsS145.drew | apply IsS145.set_1 | refine IsS145.far ?_ NB226_222.out _ | refine IsS145.far ?_ NB226_223.out _ | refine IsS145.far ?_ NB226_237.out _) | exact HI226.out)) hb); have n4_ := mk0 (below_step (by repeat (first | (with_reducible first | exact HB.out | apply wA | apply wN | apply wD | refine wS ?_ (IsS145.ge HI226.out) | refine wS ?_ GE222.out | refine wS ?_ GE223.out | refine wS ?_ GE237.out) | exact HB.out)) hb); have n5_ := mk0 (hbox); have n6_ := mk0 ((by rw [hg]; exact (below_size (by repeat (first | (with_reducible first | exact HB.out | apply wA | apply wN | apply wD | refine wS ?_ (IsS145.ge HI226.out) | refine wS ?_ GE222.out | refine wS ?_ GE223.out | refine wS ?_ GE237.out) | exact HB.out))) : w.heap.size ≤ gb246)); have n7_ := mk0 ((by rw [hg]; exact (below_size (by repeat (first | (with_reducible first | exact HB.out | apply wA | apply wN | apply wD | refine wS ?_ (IsS145.ge HI226.out) | refine wS ?_ GE222.out | refine wS ?_ GE223.out | refine wS ?_ GE237.out) | exact HB.out))) : w.heap.size ≤ gb246)); have n8_ := mk0 ((by rw [hg]; exact Nat.ne_of_lt (blk_lt (g := gb222) (o := .cells #[.int .i64 0, .int .i64 0, .string (⟨#[]⟩ : ByteArray)] 34 (0, 0)) (by (with_reducible repeat (first | apply bN | apply bD | apply bA)); exact BK222.out)) : gb222 ≠ gb246)); have n9_ := mk0 ((by rw [hg]; exact Nat.ne_of_gt (blk_lt (g := gb222) (o := .cells #[.int .i64 0, .int .i64 0, .string (⟨#[]⟩ : ByteArray)] 34 (0, 0)) (by (with_reducible repeat (first | apply bN | apply bD | apply bA)); exact BK222.out)) : gb246 ≠ gb222)); have n10_ := mk0 ((by rw [hg]; exact Nat.ne_of_lt (blk_lt (g := gb223) (o := .cells #[.int .i64 0, .int .i64 0, .string (⟨#[]⟩ : ByteArray)] 34 (0, 0)) (by (with_reducible repeat (first | apply bN | apply bD | apply bA)); exact BK223.out)) : gb223 ≠ gb246)); have n11_ := mk0 ((by rw [hg]; exact Nat.ne_of_gt (blk_lt (g := gb223) (o := .cells #[.int .i64 0, .int .i64 0, .string (⟨#[]⟩ : ByteArray)] 34 (0, 0)) (by (with_reducible repeat (first | apply bN | apply bD | apply bA)); exact BK223.out)) : gb246 ≠ gb223)); have n12_ := mk0 ((by rw [hg]; exact Nat.ne_of_lt (blk_lt (g := gb237) (o := .cells #[.int .i64 t233, .int .i64 t234, .string t235] 34 (0, 0)) (by (with_reducible repeat (first | apply bN | apply bD | apply bA)); exact BK237.out)) : gb237 ≠ gb246)); have n13_ := mk0 ((by rw [hg]; exact Nat.ne_of_gt (blk_lt (g := gb237) (o := .cells #[.int .i64 t233, .int .i64 t234, .string t235] 34 (0, 0)) (by (with_reducible repeat (first | apply bN | apply bD | apply bA)); exact BK237.out)) : gb246 ≠ gb237)); have n14_ := mk0 ((by rw [hg]; exact Nat.ne_of_lt (IsS145.lt (show IsS145 w _ g226 t224 t245 from by repeat (first | (with_reducible first | exact HI226.out | apply IsS145.alloc | apply IsS145.drewN | apply IsS145.drew | apply IsS145.set_1 | refine IsS145.far ?_ NB226_222.out _ | refine IsS145.far ?_ NB226_223.out _ | refine IsS145.far ?_ NB226_237.out _) | exact HI226.out))) : g226 ≠ gb246)); have n15_ := mk0 ((by rw [hg]; exact Nat.ne_of_gt (IsS145.lt (show IsS145 w _ g226 t224 t245 from by repeat (first | (with_reducible first | exact HI226.out | apply IsS145.alloc | apply IsS145.drewN | apply IsS145.drew | apply IsS145.set_1 | refine IsS145.far ?_ NB226_222.out _ | refine IsS145.far ?_ NB226_223.out _ | refine IsS145.far ?_ NB226_237.out _) | exact HI226.out))) : gb246 ≠ g226)); clear BK222; clear BK223; clear BK237; clear HI226; clear HB; have BK222 := n0_; have BK223 := n1_; have BK237 := n2_; have HI226 := n3_; have HB := n4_; have BK246 := n5_; have GW246 := n6_; have GE246 := n7_; have NB222_246 := n8_; have NB246_222 := n9_; have NB223_246 := n10_; have NB246_223 := n11_; have NB237_246 := n12_; have NB246_237 := n13_; have NB226_246 := n14_; have NB246_226 := n15_; clear n0_ n1_ n2_ n3_ n4_ n5_ n6_ n7_ n8_ n9_ n10_ n11_ n12_ n13_ n14_ n15_; clear hb hbox hg; have hnb34 := NB246_222.out; have hnc34 := NB222_246.out; have hnb35 := NB246_223.out; have hnc35 := NB223_246.out; have hnb36 := NB246_237.out; have hnc36 := NB237_246.out; have hnb37 := NB246_226.out; have hnc37 := NB226_246.out; have hcz38_0 : w33.cell? ⟨gb246, 0, none⟩ = some (.int .i64 0) := (bC BK246.out 0).trans rfl; have hcz38_1 : w33.cell? ⟨gb246, 1, none⟩ = some (.int .i64 0) := (bC BK246.out 1).trans rfl; have hcz38_2 : w33.cell? ⟨gb246, 2, none⟩ = some (.string (⟨#[]⟩ : ByteArray)) := (bC BK246.out 2).trans rfl; have hfz38_0 := bF BK246.out 0; have hfz38_1 := bF BK246.out 1; have hfz38_2 := bF BK246.out 2))
  (try simp only [Act.put, List.setIfInBounds_toArray, List.set_cons_zero, List.set_cons_succ])
  go_cut [50] (fun v50 wc => ∃ (kq : Nat) (x50_30 : Bool) (x227001_30 : Int), v50 = .bool x50_30 ∧ Aside0 (spec_DrawBinary.j2 kq (wrap64 (1 + t227)) x7_18 x50_30 t224 x227001_30 t233 t234 t235 t242 t243 t244 = some (r1, r2, r3, r4, r5, r6, r7)) ∧ Aside0 (kq ≤ kj18) ∧ Aside0 (wc.heap[gb222]? = some (.cells #[.int .i64 0, .int .i64 0, .string (⟨#[]⟩ : ByteArray)] 34 (0, 0))) ∧ Aside0 (wc.heap[gb223]? = some (.cells #[.int .i64 0, .int .i64 0, .string (⟨#[]⟩ : ByteArray)] 34 (0, 0))) ∧ Aside0 (wc.heap[gb237]? = some (.cells #[.int .i64 t233, .int .i64 t234, .string t235] 34 (0, 0))) ∧ Aside0 (wc.heap[gb246]? = some (.cells #[.int .i64 t242, .int .i64 t243, .string t244] 34 (0, 0))) ∧ Aside0 (IsS145 w wc g226 t224 x227001_30) ∧ Aside0 (Below w.heap.size w wc))
  case first =>
    have H := HC31.out
    clear HC31
    by_cases c39 : (wrap64 (1 + t227)) ≥ 17
    · rw [if_pos c39] at H
      have c39b0 : decide (17 ≤ (wrap64 (1 + t227))) = true := decide_eq_true c39
      clear c39
      (first | rw [c39b0] | (simp only [i64_w, i32_w]; rw [c39b0]) | rw [c39b4] | rw [c39b3] | skip)
      replace H := Option.bind_eq_some_iff.mp H
      obtain ⟨t247, A400, H⟩ := H
      replace H : (if t247 = true then ((spec_l1Rd_pick.f kj18 t224 t245 2).bind fun bt248 => (spec_DrawBinary.j2 kj18 (wrap64 (1 + t227)) x7_18 (bt248.1 == 0) t224 bt248.2 t233 t234 t235 t242 t243 t244)) else (spec_DrawBinary.j2 kj18 (wrap64 (1 + t227)) x7_18 false t224 t245 t233 t234 t235 t242 t243 t244)) = some (r1, r2, r3, r4, r5, r6, r7) := H
      have A40 := mk0 A400
      clear A400
      by_cases c41 : t247 = true
      · subst c41
        have H1 : ((spec_l1Rd_pick.f kj18 t224 t245 2).bind fun bt248 => (spec_DrawBinary.j2 kj18 (wrap64 (1 + t227)) x7_18 (bt248.1 == 0) t224 bt248.2 t233 t234 t235 t242 t243 t244)) = some (r1, r2, r3, r4, r5, r6, r7) := by rw [if_pos rfl] at H; exact H
        clear H
        have H := H1
        clear H1
        replace H := Option.bind_eq_some_iff.mp H
        obtain ⟨⟨t248, t249⟩, A420, H⟩ := H
        replace H : (spec_DrawBinary.j2 kj18 (wrap64 (1 + t227)) x7_18 (t248 == 0) t224 t249 t233 t234 t235 t242 t243 t244) = some (r1, r2, r3, r4, r5, r6, r7) := H
        have A42 := mk0 A420
        clear A420
        have H' := mk0 H
        clear H
        have hnb43 := NB246_222.out
        have hnc43 := NB222_246.out
        have hnb44 := NB246_223.out
        have hnc44 := NB223_246.out
        have hnb45 := NB246_237.out
        have hnc45 := NB237_246.out
        have hnb46 := NB246_226.out
        have hnc46 := NB226_246.out
        have hcz47_0 : w33.cell? ⟨gb246, 0, none⟩ = some (.int .i64 0) := (bC BK246.out 0).trans rfl
        have hcz47_1 : w33.cell? ⟨gb246, 1, none⟩ = some (.int .i64 0) := (bC BK246.out 1).trans rfl
        have hcz47_2 : w33.cell? ⟨gb246, 2, none⟩ = some (.string (⟨#[]⟩ : ByteArray)) := (bC BK246.out 2).trans rfl
        have hfz47_0 := bF BK246.out 0
        have hfz47_1 := bF BK246.out 1
        have hfz47_2 := bF BK246.out 2
        go_wp2_with (first | (go_at_call 57; (with_reducible refine (spec_l1Integer.calls t242 true _ A40.out).mono ?_); rintro e w' ⟨rfl, ⟨nd, rfl⟩⟩) | (go_at_call 89; (with_reducible refine (spec_l1Rd_pick.calls kj18 g226 t224 t245 2 t248 t249 w _ ?side1 ?side2 A42.out).mono ?_); (case side1 => repeat (first | (with_reducible first | exact HI226.out | apply IsS145.alloc | apply IsS145.drewN | apply IsS145.drew | apply IsS145.set_1 | refine IsS145.far ?_ NB226_222.out _ | refine IsS145.far ?_ NB226_223.out _ | refine IsS145.far ?_ NB226_237.out _ | refine IsS145.far ?_ NB226_246.out _) | exact HI226.out)); (case side2 => repeat (first | (with_reducible first | exact HB.out | apply wA | apply wN | apply wD | refine wS ?_ (IsS145.ge HI226.out) | refine wS ?_ GE222.out | refine wS ?_ GE223.out | refine wS ?_ GE237.out | refine wS ?_ GE246.out) | exact HB.out)); rintro e w48 ⟨rfl, hi, hb, hk⟩; have n0_ := mk0 (KeepBut.blk hk (g' := gb222) (o := .cells #[.int .i64 0, .int .i64 0, .string (⟨#[]⟩ : ByteArray)] 34 (0, 0)) (by (with_reducible repeat (first | apply bN | apply bD | apply bA)); refine blk_far ?_ NB222_246.out _; (with_reducible repeat (first | apply bN | apply bD | apply bA)); refine blk_far ?_ NB222_246.out _; (with_reducible repeat (first | apply bN | apply bD | apply bA)); refine blk_far ?_ NB222_246.out _; (with_reducible repeat (first | apply bN | apply bD | apply bA)); exact BK222.out) NB222_226.out (by simp)); have n1_ := mk0 (KeepBut.blk hk (g' := gb223) (o := .cells #[.int .i64 0, .int .i64 0, .string (⟨#[]⟩ : ByteArray)] 34 (0, 0)) (by (with_reducible repeat (first | apply bN | apply bD | apply bA)); refine blk_far ?_ NB223_246.out _; (with_reducible repeat (first | apply bN | apply bD | apply bA)); refine blk_far ?_ NB223_246.out _; (with_reducible repeat (first | apply bN | apply bD | apply bA)); refine blk_far ?_ NB223_246.out _; (with_reducible repeat (first | apply bN | apply bD | apply bA)); exact BK223.out) NB223_226.out (by simp)); have n2_ := mk0 (KeepBut.blk hk (g' := gb237) (o := .cells #[.int .i64 t233, .int .i64 t234, .string t235] 34 (0, 0)) (by (with_reducible repeat (first | apply bN | apply bD | apply bA)); refine blk_far ?_ NB237_246.out _; (with_reducible repeat (first | apply bN | apply bD | apply bA)); refine blk_far ?_ NB237_246.out _; (with_reducible repeat (first | apply bN | apply bD | apply bA)); refine blk_far ?_ NB237_246.out _; (with_reducible repeat (first | apply bN | apply bD | apply bA)); exact BK237.out) NB237_226.out (by simp)); have n3_ := mk0 (KeepBut.blk hk (g' := gb246) (o := .cells #[.int .i64 t242, .int .i64 t243, .string t244] 34 (0, 0)) (by (with_reducible repeat (first | apply bN | apply bD | apply bA)); refine blk_put (cs := #[.int .i64 t242, .int .i64 t243, .string (⟨#[]⟩ : ByteArray)]) ?_ 2 _ rfl; (with_reducible repeat (first | apply bN | apply bD | apply bA)); refine blk_put (cs := #[.int .i64 t242, .int .i64 0, .string (⟨#[]⟩ : ByteArray)]) ?_ 1 _ rfl; (with_reducible repeat (first | apply bN | apply bD | apply bA)); refine blk_put (cs := #[.int .i64 0, .int .i64 0, .string (⟨#[]⟩ : ByteArray)]) ?_ 0 _ rfl; (with_reducible repeat (first | apply bN | apply bD | apply bA)); exact BK246.out) NB246_226.out (by simp)); have n4_ := mk0 (hb); have n5_ := mk0 (hi); clear BK222; clear BK223; clear BK237; clear BK246; clear HB; clear HI226; have BK222 := n0_; have BK223 := n1_; have BK237 := n2_; have BK246 := n3_; have HB := n4_; have HI226 := n5_; clear n0_ n1_ n2_ n3_ n4_ n5_; (try clear hb); (try clear hb2); (try clear hk); (try clear hi)))
        go_meet
        case rel => exact ⟨_, ((t248 == 0)), (t249), (by first | rfl | (simp; done) | (simp [*]; done)), H', ⟨by have := HJ4.out; have := HJ18.out; first | omega | exact Nat.le_refl _⟩, ⟨by (with_reducible repeat (first | apply bN | apply bD | apply bA)); exact BK222.out⟩, ⟨by (with_reducible repeat (first | apply bN | apply bD | apply bA)); exact BK223.out⟩, ⟨by (with_reducible repeat (first | apply bN | apply bD | apply bA)); exact BK237.out⟩, ⟨by (with_reducible repeat (first | apply bN | apply bD | apply bA)); exact BK246.out⟩, ⟨by repeat (first | (with_reducible first | exact HI226.out | apply IsS145.alloc | apply IsS145.drewN | apply IsS145.drew | apply IsS145.set_1 | refine IsS145.far ?_ NB226_222.out _ | refine IsS145.far ?_ NB226_223.out _ | refine IsS145.far ?_ NB226_237.out _ | refine IsS145.far ?_ NB226_246.out _) | exact HI226.out)⟩, ⟨by repeat (first | (with_reducible first | exact HB.out | apply wA | apply wN | apply wD | refine wS ?_ (IsS145.ge HI226.out) | refine wS ?_ GE222.out | refine wS ?_ GE223.out | refine wS ?_ GE237.out | refine wS ?_ GE246.out) | exact HB.out)⟩⟩
      replace c41 := Bool.eq_false_iff.mpr c41
      subst c41
      have H1 : (spec_DrawBinary.j2 kj18 (wrap64 (1 + t227)) x7_18 false t224 t245 t233 t234 t235 t242 t243 t244) = some (r1, r2, r3, r4, r5, r6, r7) := by rw [if_neg (show ¬ (false = true) by decide)] at H; exact H
      clear H
      have H := H1
      clear H1
      have H' := mk0 H
      clear H
      have hnb49 := NB246_222.out
      have hnc49 := NB222_246.out
      have hnb50 := NB246_223.out
      have hnc50 := NB223_246.out
      have hnb51 := NB246_237.out
      have hnc51 := NB237_246.out
      have hnb52 := NB246_226.out
      have hnc52 := NB226_246.out
      have hcz53_0 : w33.cell? ⟨gb246, 0, none⟩ = some (.int .i64 0) := (bC BK246.out 0).trans rfl
      have hcz53_1 : w33.cell? ⟨gb246, 1, none⟩ = some (.int .i64 0) := (bC BK246.out 1).trans rfl
      have hcz53_2 : w33.cell? ⟨gb246, 2, none⟩ = some (.string (⟨#[]⟩ : ByteArray)) := (bC BK246.out 2).trans rfl
      have hfz53_0 := bF BK246.out 0
      have hfz53_1 := bF BK246.out 1
      have hfz53_2 := bF BK246.out 2
      go_wp2_with (first | (go_at_call 57; (with_reducible refine (spec_l1Integer.calls t242 false _ A40.out).mono ?_); rintro e w' ⟨rfl, ⟨nd, rfl⟩⟩))
      go_meet
      case rel => exact ⟨_, (false), (t245), (by first | rfl | (simp; done) | (simp [*]; done)), H', ⟨by have := HJ4.out; have := HJ18.out; first | omega | exact Nat.le_refl _⟩, ⟨by (with_reducible repeat (first | apply bN | apply bD | apply bA)); refine blk_far ?_ NB222_246.out _; (with_reducible repeat (first | apply bN | apply bD | apply bA)); refine blk_far ?_ NB222_246.out _; (with_reducible repeat (first | apply bN | apply bD | apply bA)); refine blk_far ?_ NB222_246.out _; (with_reducible repeat (first | apply bN | apply bD | apply bA)); exact BK222.out⟩, ⟨by (with_reducible repeat (first | apply bN | apply bD | apply bA)); refine blk_far ?_ NB223_246.out _; (with_reducible repeat (first | apply bN | apply bD | apply bA)); refine blk_far ?_ NB223_246.out _; (with_reducible repeat (first | apply bN | apply bD | apply bA)); refine blk_far ?_ NB223_246.out _; (with_reducible repeat (first | apply bN | apply bD | apply bA)); exact BK223.out⟩, ⟨by (with_reducible repeat (first | apply bN | apply bD | apply bA)); refine blk_far ?_ NB237_246.out _; (with_reducible repeat (first | apply bN | apply bD | apply bA)); refine blk_far ?_ NB237_246.out _; (with_reducible repeat (first | apply bN | apply bD | apply bA)); refine blk_far ?_ NB237_246.out _; (with_reducible repeat (first | apply bN | apply bD | apply bA)); exact BK237.out⟩, ⟨by (with_reducible repeat (first | apply bN | apply bD | apply bA)); refine blk_put (cs := #[.int .i64 t242, .int .i64 t243, .string (⟨#[]⟩ : ByteArray)]) ?_ 2 _ rfl; (with_reducible repeat (first | apply bN | apply bD | apply bA)); refine blk_put (cs := #[.int .i64 t242, .int .i64 0, .string (⟨#[]⟩ : ByteArray)]) ?_ 1 _ rfl; (with_reducible repeat (first | apply bN | apply bD | apply bA)); refine blk_put (cs := #[.int .i64 0, .int .i64 0, .string (⟨#[]⟩ : ByteArray)]) ?_ 0 _ rfl; (with_reducible repeat (first | apply bN | apply bD | apply bA)); exact BK246.out⟩, ⟨by repeat (first | (with_reducible first | exact HI226.out | apply IsS145.alloc | apply IsS145.drewN | apply IsS145.drew | apply IsS145.set_1 | refine IsS145.far ?_ NB226_222.out _ | refine IsS145.far ?_ NB226_223.out _ | refine IsS145.far ?_ NB226_237.out _ | refine IsS145.far ?_ NB226_246.out _) | exact HI226.out)⟩, ⟨by repeat (first | (with_reducible first | exact HB.out | apply wA | apply wN | apply wD | refine wS ?_ (IsS145.ge HI226.out) | refine wS ?_ GE222.out | refine wS ?_ GE223.out | refine wS ?_ GE237.out | refine wS ?_ GE246.out) | exact HB.out)⟩⟩
    rw [if_neg c39] at H
    have c39b0 : decide (17 ≤ (wrap64 (1 + t227))) = false := decide_eq_false c39
    clear c39
    (first | rw [c39b0] | (simp only [i64_w, i32_w]; rw [c39b0]) | rw [c39b4] | rw [c39b3] | skip)
    have H' := mk0 H
    clear H
    go_wp2
    go_meet
    case rel => exact ⟨_, (false), (t245), (by first | rfl | (simp; done) | (simp [*]; done)), H', ⟨by have := HJ4.out; have := HJ18.out; first | omega | exact Nat.le_refl _⟩, ⟨by (with_reducible repeat (first | apply bN | apply bD | apply bA)); refine blk_far ?_ NB222_246.out _; (with_reducible repeat (first | apply bN | apply bD | apply bA)); refine blk_far ?_ NB222_246.out _; (with_reducible repeat (first | apply bN | apply bD | apply bA)); refine blk_far ?_ NB222_246.out _; (with_reducible repeat (first | apply bN | apply bD | apply bA)); exact BK222.out⟩, ⟨by (with_reducible repeat (first | apply bN | apply bD | apply bA)); refine blk_far ?_ NB223_246.out _; (with_reducible repeat (first | apply bN | apply bD | apply bA)); refine blk_far ?_ NB223_246.out _; (with_reducible repeat (first | apply bN | apply bD | apply bA)); refine blk_far ?_ NB223_246.out _; (with_reducible repeat (first | apply bN | apply bD | apply bA)); exact BK223.out⟩, ⟨by (with_reducible repeat (first | apply bN | apply bD | apply bA)); refine blk_far ?_ NB237_246.out _; (with_reducible repeat (first | apply bN | apply bD | apply bA)); refine blk_far ?_ NB237_246.out _; (with_reducible repeat (first | apply bN | apply bD | apply bA)); refine blk_far ?_ NB237_246.out _; (with_reducible repeat (first | apply bN | apply bD | apply bA)); exact BK237.out⟩, ⟨by (with_reducible repeat (first | apply bN | apply bD | apply bA)); refine blk_put (cs := #[.int .i64 t242, .int .i64 t243, .string (⟨#[]⟩ : ByteArray)]) ?_ 2 _ rfl; (with_reducible repeat (first | apply bN | apply bD | apply bA)); refine blk_put (cs := #[.int .i64 t242, .int .i64 0, .string (⟨#[]⟩ : ByteArray)]) ?_ 1 _ rfl; (with_reducible repeat (first | apply bN | apply bD | apply bA)); refine blk_put (cs := #[.int .i64 0, .int .i64 0, .string (⟨#[]⟩ : ByteArray)]) ?_ 0 _ rfl; (with_reducible repeat (first | apply bN | apply bD | apply bA)); exact BK246.out⟩, ⟨by repeat (first | (with_reducible first | exact HI226.out | apply IsS145.alloc | apply IsS145.drewN | apply IsS145.drew | apply IsS145.set_1 | refine IsS145.far ?_ NB226_222.out _ | refine IsS145.far ?_ NB226_223.out _ | refine IsS145.far ?_ NB226_237.out _ | refine IsS145.far ?_ NB226_246.out _) | exact HI226.out)⟩, ⟨by repeat (first | (with_reducible first | exact HB.out | apply wA | apply wN | apply wD | refine wS ?_ (IsS145.ge HI226.out) | refine wS ?_ GE222.out | refine wS ?_ GE223.out | refine wS ?_ GE237.out | refine wS ?_ GE246.out) | exact HB.out)⟩⟩
  clear HC31
  try clear c1
  try clear c2
  try clear p2
  try clear c3
  try clear c4
  try clear c5
  try clear p6
  try clear c8
  try clear c9
  try clear c11
  try clear c11b0
  try clear c12
  try clear c12b0
  try clear c14
  try clear c14b0
  try clear c14b1
  try clear c22
  try clear c23
  try clear c24
  try clear c27
  try clear c27b0
  try clear c27b1
  try clear c34
  try clear c35
  try clear c36
  try clear c37
  try clear c39
  try clear c39b0
  try clear c41
  try clear c43
  try clear c44
  try clear c45
  try clear c46
  try clear c49
  try clear c50
  try clear c51
  try clear c52
  try clear hcz25_0
  try clear hcz25_1
  try clear hcz25_2
  try clear hcz38_0
  try clear hcz38_1
  try clear hcz38_2
  try clear hcz47_0
  try clear hcz47_1
  try clear hcz47_2
  try clear hcz53_0
  try clear hcz53_1
  try clear hcz53_2
  try clear hfz25_0
  try clear hfz25_1
  try clear hfz25_2
  try clear hfz38_0
  try clear hfz38_1
  try clear hfz38_2
  try clear hfz47_0
  try clear hfz47_1
  try clear hfz47_2
  try clear hfz53_0
  try clear hfz53_1
  try clear hfz53_2
  try clear p2
  try clear p6
  obtain ⟨kq, x50_30, x227001_30, rfl, HA, HJ30, BK222, BK223, BK237, BK246, HI226, HB⟩ := hcut
  cases kq with
  | zero => exact absurd HA.out (by simp [spec_DrawBinary.j2])
  | succ kj30 =>
  have H := HA.out
  clear HA
  simp only [spec_DrawBinary.j2] at H
  have HC54 := mk0 H
  clear H
  go_upto_if 50 with (fail)
  go_cut [] (fun wc => ∃ (kq : Nat) (x227001_53 : Int) (x247001_53 : Int), Aside0 (spec_DrawBinary.j3 kq (wrap64 (1 + t227)) x7_18 t224 x227001_53 t233 t234 t235 t242 x247001_53 t244 = some (r1, r2, r3, r4, r5, r6, r7)) ∧ Aside0 (kq ≤ kj30) ∧ Aside0 (wc.heap[gb222]? = some (.cells #[.int .i64 0, .int .i64 0, .string (⟨#[]⟩ : ByteArray)] 34 (0, 0))) ∧ Aside0 (wc.heap[gb223]? = some (.cells #[.int .i64 0, .int .i64 0, .string (⟨#[]⟩ : ByteArray)] 34 (0, 0))) ∧ Aside0 (wc.heap[gb237]? = some (.cells #[.int .i64 t233, .int .i64 t234, .string t235] 34 (0, 0))) ∧ Aside0 (wc.heap[gb246]? = some (.cells #[.int .i64 t242, .int .i64 x247001_53, .string t244] 34 (0, 0))) ∧ Aside0 (IsS145 w wc g226 t224 x227001_53) ∧ Aside0 (Below w.heap.size w wc))
  case first =>
    have H := HC54.out
    clear HC54
    by_cases c55 : x50_30 = true
    · subst c55
      have H1 : ((spec_l1Rd_pick.f kj30 t224 x227001_30 70).bind fun bt250 => ((spec_l1Max.f kj30 x7_18).bind fun t252 => (if (wrap64 (IntKind.u64.wrap ((Int.tmod t252 71) + 1))) = 0 then (none) else (spec_DrawBinary.j3 kj30 (wrap64 (1 + t227)) x7_18 t224 bt250.2 t233 t234 t235 t242 (Int.tmod bt250.1 (wrap64 (IntKind.u64.wrap ((Int.tmod t252 71) + 1)))) t244)))) = some (r1, r2, r3, r4, r5, r6, r7) := by rw [if_pos rfl] at H; exact H
      clear H
      have H := H1
      clear H1
      replace H := Option.bind_eq_some_iff.mp H
      obtain ⟨⟨t250, t251⟩, A560, H⟩ := H
      replace H : ((spec_l1Max.f kj30 x7_18).bind fun t252 => (if (wrap64 (IntKind.u64.wrap ((Int.tmod t252 71) + 1))) = 0 then (none) else (spec_DrawBinary.j3 kj30 (wrap64 (1 + t227)) x7_18 t224 t251 t233 t234 t235 t242 (Int.tmod t250 (wrap64 (IntKind.u64.wrap ((Int.tmod t252 71) + 1)))) t244))) = some (r1, r2, r3, r4, r5, r6, r7) := H
      have A56 := mk0 A560
      clear A560
      replace H := Option.bind_eq_some_iff.mp H
      obtain ⟨t252, A570, H⟩ := H
      replace H : (if (wrap64 (IntKind.u64.wrap ((Int.tmod t252 71) + 1))) = 0 then (none) else (spec_DrawBinary.j3 kj30 (wrap64 (1 + t227)) x7_18 t224 t251 t233 t234 t235 t242 (Int.tmod t250 (wrap64 (IntKind.u64.wrap ((Int.tmod t252 71) + 1)))) t244)) = some (r1, r2, r3, r4, r5, r6, r7) := H
      have A57 := mk0 A570
      clear A570
      by_cases c58 : (wrap64 (IntKind.u64.wrap ((Int.tmod t252 71) + 1))) = 0
      · rw [if_pos c58] at H
        exact absurd H (by simp)
      rw [if_neg c58] at H
      have c58b0 : ((wrap64 (IntKind.u64.wrap ((Int.tmod t252 71) + 1))) == 0) = false := beq_eq_false_iff_ne.mpr c58
      have c58b1 : ((wrap64 (IntKind.u64.wrap ((Int.tmod t252 71) + 1))) != 0) = true := bne_iff_ne.mpr c58
      (first | rw [c58b0] | (simp only [i64_w, i32_w]; rw [c58b0]) | rw [c58b4] | rw [c58b3] | skip)
      have H' := mk0 H
      clear H
      go_wp2_with (first | ((with_reducible refine gate_callee (f := 89) rfl ?_); refine goesL_ (some 52) rfl rfl Try.func89 (by kernel_rfl) rfl #[.pointer (some ⟨g226, 0, none⟩), .int .i64 70] rfl (by (try simp only [List.map_toArray, List.map_cons, List.map_nil]); first | done | rfl | (simp only [List.length_drop, List.length_take]; rfl)) ?_; (with_reducible refine (spec_l1Rd_pick.calls kj30 g226 t224 x227001_30 70 t250 t251 w _ ?side1 ?side2 A56.out).mono ?_); (case side1 => repeat (first | (with_reducible first | exact HI226.out | apply IsS145.alloc | apply IsS145.drewN | apply IsS145.drew | apply IsS145.set_1 | refine IsS145.far ?_ NB226_222.out _ | refine IsS145.far ?_ NB226_223.out _ | refine IsS145.far ?_ NB226_237.out _ | refine IsS145.far ?_ NB226_246.out _) | exact HI226.out)); (case side2 => repeat (first | (with_reducible first | exact HB.out | apply wA | apply wN | apply wD | refine wS ?_ (IsS145.ge HI226.out) | refine wS ?_ GE222.out | refine wS ?_ GE223.out | refine wS ?_ GE237.out | refine wS ?_ GE246.out) | exact HB.out)); rintro e w59 ⟨rfl, hi, hb, hk⟩; refine ⟨_, rfl, ?_⟩; have n0_ := mk0 (KeepBut.blk hk (g' := gb222) (o := .cells #[.int .i64 0, .int .i64 0, .string (⟨#[]⟩ : ByteArray)] 34 (0, 0)) (by (with_reducible repeat (first | apply bN | apply bD | apply bA)); exact BK222.out) NB222_226.out (by simp)); have n1_ := mk0 (KeepBut.blk hk (g' := gb223) (o := .cells #[.int .i64 0, .int .i64 0, .string (⟨#[]⟩ : ByteArray)] 34 (0, 0)) (by (with_reducible repeat (first | apply bN | apply bD | apply bA)); exact BK223.out) NB223_226.out (by simp)); have n2_ := mk0 (KeepBut.blk hk (g' := gb237) (o := .cells #[.int .i64 t233, .int .i64 t234, .string t235] 34 (0, 0)) (by (with_reducible repeat (first | apply bN | apply bD | apply bA)); exact BK237.out) NB237_226.out (by simp)); have n3_ := mk0 (KeepBut.blk hk (g' := gb246) (o := .cells #[.int .i64 t242, .int .i64 t243, .string t244] 34 (0, 0)) (by (with_reducible repeat (first | apply bN | apply bD | apply bA)); exact BK246.out) NB246_226.out (by simp)); have n4_ := mk0 (hb); have n5_ := mk0 (hi); clear BK222; clear BK223; clear BK237; clear BK246; clear HB; clear HI226; have BK222 := n0_; have BK223 := n1_; have BK237 := n2_; have BK246 := n3_; have HB := n4_; have HI226 := n5_; clear n0_ n1_ n2_ n3_ n4_ n5_; (try clear hb); (try clear hb2); (try clear hk); (try clear hi)) | ((with_reducible refine gate_callee (f := 91) rfl ?_); refine goesL_ (some 54) rfl rfl Try.func91 (by kernel_rfl) rfl #[.int .i64 x7_18] rfl (by (try simp only [List.map_toArray, List.map_cons, List.map_nil]); first | done | rfl | (simp only [List.length_drop, List.length_take]; rfl)) ?_; (with_reducible refine (spec_l1Max.calls kj30 x7_18 t252 _ A57.out).mono ?_); rintro e w' ⟨rfl, ⟨nd, rfl⟩⟩; refine ⟨_, rfl, ?_⟩; (try (rw [drewN_self w59]; generalize hq_ : World.drewN w59 _ = w59; have n0_ : Aside0 (w59.heap[gb222]? = some (.cells #[.int .i64 0, .int .i64 0, .string (⟨#[]⟩ : ByteArray)] 34 (0, 0))) := ⟨by rw [← hq_]; exact (by (with_reducible repeat (first | apply bN | apply bD | apply bA)); exact BK222.out)⟩; have n1_ : Aside0 (w59.heap[gb223]? = some (.cells #[.int .i64 0, .int .i64 0, .string (⟨#[]⟩ : ByteArray)] 34 (0, 0))) := ⟨by rw [← hq_]; exact (by (with_reducible repeat (first | apply bN | apply bD | apply bA)); exact BK223.out)⟩; have n2_ : Aside0 (w59.heap[gb237]? = some (.cells #[.int .i64 t233, .int .i64 t234, .string t235] 34 (0, 0))) := ⟨by rw [← hq_]; exact (by (with_reducible repeat (first | apply bN | apply bD | apply bA)); exact BK237.out)⟩; have n3_ : Aside0 (w59.heap[gb246]? = some (.cells #[.int .i64 t242, .int .i64 t243, .string t244] 34 (0, 0))) := ⟨by rw [← hq_]; exact (by (with_reducible repeat (first | apply bN | apply bD | apply bA)); exact BK246.out)⟩; have n4_ : Aside0 (IsS145 w w59 g226 t224 t251) := ⟨by rw [← hq_]; exact (by repeat (first | (with_reducible first | exact HI226.out | apply IsS145.alloc | apply IsS145.drewN | apply IsS145.drew | apply IsS145.set_1 | refine IsS145.far ?_ NB226_222.out _ | refine IsS145.far ?_ NB226_223.out _ | refine IsS145.far ?_ NB226_237.out _ | refine IsS145.far ?_ NB226_246.out _) | exact HI226.out))⟩; have n5_ : Aside0 (Below w.heap.size w w59) := ⟨by rw [← hq_]; exact (by repeat (first | (with_reducible first | exact HB.out | apply wA | apply wN | apply wD | refine wS ?_ (IsS145.ge HI226.out) | refine wS ?_ GE222.out | refine wS ?_ GE223.out | refine wS ?_ GE237.out | refine wS ?_ GE246.out) | exact HB.out))⟩; clear BK222 BK223 BK237 BK246 HI226 HB hq_; have BK222 := n0_; have BK223 := n1_; have BK237 := n2_; have BK246 := n3_; have HI226 := n4_; have HB := n5_; clear n0_ n1_ n2_ n3_ n4_ n5_)); have hnb60 := NB246_222.out; have hnc60 := NB222_246.out; have hnb61 := NB246_223.out; have hnc61 := NB223_246.out; have hnb62 := NB246_237.out; have hnc62 := NB237_246.out; have hnb63 := NB246_226.out; have hnc63 := NB226_246.out; have hcz64_0 : w59.cell? ⟨gb246, 0, none⟩ = some (.int .i64 t242) := (bC BK246.out 0).trans rfl; have hcz64_1 : w59.cell? ⟨gb246, 1, none⟩ = some (.int .i64 t243) := (bC BK246.out 1).trans rfl; have hcz64_2 : w59.cell? ⟨gb246, 2, none⟩ = some (.string t244) := (bC BK246.out 2).trans rfl; have hfz64_0 := bF BK246.out 0; have hfz64_1 := bF BK246.out 1; have hfz64_2 := bF BK246.out 2))
      go_meet
      case rel => exact ⟨_, (t251), (Int.tmod t250 (wrap64 (IntKind.u64.wrap ((Int.tmod t252 71) + 1)))), H', ⟨by have := HJ4.out; have := HJ18.out; have := HJ30.out; first | omega | exact Nat.le_refl _⟩, ⟨by (with_reducible repeat (first | apply bN | apply bD | apply bA)); refine blk_far ?_ NB222_246.out _; (with_reducible repeat (first | apply bN | apply bD | apply bA)); exact BK222.out⟩, ⟨by (with_reducible repeat (first | apply bN | apply bD | apply bA)); refine blk_far ?_ NB223_246.out _; (with_reducible repeat (first | apply bN | apply bD | apply bA)); exact BK223.out⟩, ⟨by (with_reducible repeat (first | apply bN | apply bD | apply bA)); refine blk_far ?_ NB237_246.out _; (with_reducible repeat (first | apply bN | apply bD | apply bA)); exact BK237.out⟩, ⟨by (with_reducible repeat (first | apply bN | apply bD | apply bA)); refine blk_put (cs := #[.int .i64 t242, .int .i64 t243, .string t244]) ?_ 1 _ rfl; (with_reducible repeat (first | apply bN | apply bD | apply bA)); exact BK246.out⟩, ⟨by repeat (first | (with_reducible first | exact HI226.out | apply IsS145.alloc | apply IsS145.drewN | apply IsS145.drew | apply IsS145.set_1 | refine IsS145.far ?_ NB226_222.out _ | refine IsS145.far ?_ NB226_223.out _ | refine IsS145.far ?_ NB226_237.out _ | refine IsS145.far ?_ NB226_246.out _) | exact HI226.out)⟩, ⟨by repeat (first | (with_reducible first | exact HB.out | apply wA | apply wN | apply wD | refine wS ?_ (IsS145.ge HI226.out) | refine wS ?_ GE222.out | refine wS ?_ GE223.out | refine wS ?_ GE237.out | refine wS ?_ GE246.out) | exact HB.out)⟩⟩
    replace c55 := Bool.eq_false_iff.mpr c55
    subst c55
    have H1 : (spec_DrawBinary.j3 kj30 (wrap64 (1 + t227)) x7_18 t224 x227001_30 t233 t234 t235 t242 t243 t244) = some (r1, r2, r3, r4, r5, r6, r7) := by rw [if_neg (show ¬ (false = true) by decide)] at H; exact H
    clear H
    have H := H1
    clear H1
    have H' := mk0 H
    clear H
    go_wp2
    go_meet
    case rel => exact ⟨_, (x227001_30), (t243), H', ⟨by have := HJ4.out; have := HJ18.out; have := HJ30.out; first | omega | exact Nat.le_refl _⟩, ⟨by (with_reducible repeat (first | apply bN | apply bD | apply bA)); exact BK222.out⟩, ⟨by (with_reducible repeat (first | apply bN | apply bD | apply bA)); exact BK223.out⟩, ⟨by (with_reducible repeat (first | apply bN | apply bD | apply bA)); exact BK237.out⟩, ⟨by (with_reducible repeat (first | apply bN | apply bD | apply bA)); exact BK246.out⟩, ⟨by repeat (first | (with_reducible first | exact HI226.out | apply IsS145.alloc | apply IsS145.drewN | apply IsS145.drew | apply IsS145.set_1 | refine IsS145.far ?_ NB226_222.out _ | refine IsS145.far ?_ NB226_223.out _ | refine IsS145.far ?_ NB226_237.out _ | refine IsS145.far ?_ NB226_246.out _) | exact HI226.out)⟩, ⟨by repeat (first | (with_reducible first | exact HB.out | apply wA | apply wN | apply wD | refine wS ?_ (IsS145.ge HI226.out) | refine wS ?_ GE222.out | refine wS ?_ GE223.out | refine wS ?_ GE237.out | refine wS ?_ GE246.out) | exact HB.out)⟩⟩
  clear HC54
  try clear c1
  try clear c2
  try clear p2
  try clear c3
  try clear c4
  try clear c5
  try clear c6
  try clear p6
  try clear c8
  try clear c9
  try clear c11
  try clear c11b0
  try clear c12
  try clear c12b0
  try clear c14
  try clear c14b0
  try clear c14b1
  try clear c22
  try clear c23
  try clear c24
  try clear c27
  try clear c27b0
  try clear c27b1
  try clear c34
  try clear c35
  try clear c36
  try clear c37
  try clear c39
  try clear c39b0
  try clear c41
  try clear c43
  try clear c44
  try clear c45
  try clear c46
  try clear c49
  try clear c50
  try clear c51
  try clear c52
  try clear c54
  try clear c55
  try clear c58
  try clear c58b0
  try clear c58b1
  try clear c60
  try clear c61
  try clear c62
  try clear c63
  try clear p64
  try clear hcz25_0
  try clear hcz25_1
  try clear hcz25_2
  try clear hcz38_0
  try clear hcz38_1
  try clear hcz38_2
  try clear hcz47_0
  try clear hcz47_1
  try clear hcz47_2
  try clear hcz53_0
  try clear hcz53_1
  try clear hcz53_2
  try clear hcz64_0
  try clear hcz64_1
  try clear hcz64_2
  try clear hfz25_0
  try clear hfz25_1
  try clear hfz25_2
  try clear hfz38_0
  try clear hfz38_1
  try clear hfz38_2
  try clear hfz47_0
  try clear hfz47_1
  try clear hfz47_2
  try clear hfz53_0
  try clear hfz53_1
  try clear hfz53_2
  try clear hfz64_0
  try clear hfz64_1
  try clear hfz64_2
  try clear p2
  try clear p6
  obtain ⟨kq, x227001_53, x247001_53, HA, HJ53, BK222, BK223, BK237, BK246, HI226, HB⟩ := hcut
  cases kq with
  | zero => exact absurd HA.out (by simp [spec_DrawBinary.j3])
  | succ kj53 =>
  have H := HA.out
  clear HA
  simp only [spec_DrawBinary.j3] at H
  have HC65 := mk0 H
  clear H
  go_upto_region 14 with (fail)
  go_cut [78] (fun v78 wc => ∃ (kq : Nat) (x78_64 : Bool) (x227001_64 : Int), v78 = .bool x78_64 ∧ Aside0 (spec_DrawBinary.j4 kq (wrap64 (1 + t227)) x7_18 x78_64 t224 x227001_64 t233 t234 t235 t242 x247001_53 t244 = some (r1, r2, r3, r4, r5, r6, r7)) ∧ Aside0 (kq ≤ kj53) ∧ Aside0 (wc.heap[gb222]? = some (.cells #[.int .i64 0, .int .i64 0, .string (⟨#[]⟩ : ByteArray)] 34 (0, 0))) ∧ Aside0 (wc.heap[gb223]? = some (.cells #[.int .i64 0, .int .i64 0, .string (⟨#[]⟩ : ByteArray)] 34 (0, 0))) ∧ Aside0 (wc.heap[gb237]? = some (.cells #[.int .i64 t233, .int .i64 t234, .string t235] 34 (0, 0))) ∧ Aside0 (wc.heap[gb246]? = some (.cells #[.int .i64 t242, .int .i64 x247001_53, .string t244] 34 (0, 0))) ∧ Aside0 (IsS145 w wc g226 t224 x227001_64) ∧ Aside0 (Below w.heap.size w wc))
  case first =>
    have H := HC65.out
    clear HC65
    by_cases c66 : (wrap64 (1 + t227)) ≥ 17
    · rw [if_pos c66] at H
      have c66b0 : decide (17 ≤ (wrap64 (1 + t227))) = true := decide_eq_true c66
      clear c66
      (first | rw [c66b0] | (simp only [i64_w, i32_w]; rw [c66b0]) | rw [c66b4] | rw [c66b3] | skip)
      replace H := Option.bind_eq_some_iff.mp H
      obtain ⟨t253, A670, H⟩ := H
      replace H : (if t253 = true then (if t242 = t233 then ((spec_l1Rd_pick.f kj53 t224 x227001_53 6).bind fun bt254 => (spec_DrawBinary.j4 kj53 (wrap64 (1 + t227)) x7_18 (bt254.1 == 0) t224 bt254.2 t233 t234 t235 t242 x247001_53 t244)) else (spec_DrawBinary.j4 kj53 (wrap64 (1 + t227)) x7_18 false t224 x227001_53 t233 t234 t235 t242 x247001_53 t244)) else (spec_DrawBinary.j4 kj53 (wrap64 (1 + t227)) x7_18 false t224 x227001_53 t233 t234 t235 t242 x247001_53 t244)) = some (r1, r2, r3, r4, r5, r6, r7) := H
      have A67 := mk0 A670
      clear A670
      by_cases c68 : t253 = true
      · subst c68
        have H1 : (if t242 = t233 then ((spec_l1Rd_pick.f kj53 t224 x227001_53 6).bind fun bt254 => (spec_DrawBinary.j4 kj53 (wrap64 (1 + t227)) x7_18 (bt254.1 == 0) t224 bt254.2 t233 t234 t235 t242 x247001_53 t244)) else (spec_DrawBinary.j4 kj53 (wrap64 (1 + t227)) x7_18 false t224 x227001_53 t233 t234 t235 t242 x247001_53 t244)) = some (r1, r2, r3, r4, r5, r6, r7) := by rw [if_pos rfl] at H; exact H
        clear H
        have H := H1
        clear H1
        by_cases c69 : t242 = t233
        · rw [if_pos c69] at H
          have c69b0 : (t242 == t233) = true := beq_iff_eq.mpr c69
          have c69b1 : (t242 != t233) = false := bne_eq_false_iff_eq.mpr c69
          clear c69
          replace H := Option.bind_eq_some_iff.mp H
          obtain ⟨⟨t254, t255⟩, A700, H⟩ := H
          replace H : (spec_DrawBinary.j4 kj53 (wrap64 (1 + t227)) x7_18 (t254 == 0) t224 t255 t233 t234 t235 t242 x247001_53 t244) = some (r1, r2, r3, r4, r5, r6, r7) := H
          have A70 := mk0 A700
          clear A700
          have H' := mk0 H
          clear H
          have hnb71 := NB246_222.out
          have hnc71 := NB222_246.out
          have hnb72 := NB246_223.out
          have hnc72 := NB223_246.out
          have hnb73 := NB246_237.out
          have hnc73 := NB237_246.out
          have hnb74 := NB246_226.out
          have hnc74 := NB226_246.out
          have hcz75_0 : wc.cell? ⟨gb246, 0, none⟩ = some (.int .i64 t242) := (bC BK246.out 0).trans rfl
          have hcz75_1 : wc.cell? ⟨gb246, 1, none⟩ = some (.int .i64 x247001_53) := (bC BK246.out 1).trans rfl
          have hcz75_2 : wc.cell? ⟨gb246, 2, none⟩ = some (.string t244) := (bC BK246.out 2).trans rfl
          have hfz75_0 := bF BK246.out 0
          have hfz75_1 := bF BK246.out 1
          have hfz75_2 := bF BK246.out 2
          go_wp2_with (first | (go_at_call 57; (with_reducible refine (spec_l1Integer.calls t242 true _ A67.out).mono ?_); rintro e w' ⟨rfl, ⟨nd, rfl⟩⟩; have hnb76 := NB237_222.out; have hnc76 := NB222_237.out; have hnb77 := NB237_223.out; have hnc77 := NB223_237.out; have hnb78 := NB237_226.out; have hnc78 := NB226_237.out; have hcz79_0 : wc.cell? ⟨gb237, 0, none⟩ = some (.int .i64 t233) := (bC BK237.out 0).trans rfl; have hcz79_1 : wc.cell? ⟨gb237, 1, none⟩ = some (.int .i64 t234) := (bC BK237.out 1).trans rfl; have hcz79_2 : wc.cell? ⟨gb237, 2, none⟩ = some (.string t235) := (bC BK237.out 2).trans rfl; have hfz79_0 := bF BK237.out 0; have hfz79_1 := bF BK237.out 1; have hfz79_2 := bF BK237.out 2) | (go_at_call 89; (with_reducible refine (spec_l1Rd_pick.calls kj53 g226 t224 x227001_53 6 t254 t255 w _ ?side1 ?side2 A70.out).mono ?_); (case side1 => repeat (first | (with_reducible first | exact HI226.out | apply IsS145.alloc | apply IsS145.drewN | apply IsS145.drew | apply IsS145.set_1 | refine IsS145.far ?_ NB226_222.out _ | refine IsS145.far ?_ NB226_223.out _ | refine IsS145.far ?_ NB226_237.out _ | refine IsS145.far ?_ NB226_246.out _) | exact HI226.out)); (case side2 => repeat (first | (with_reducible first | exact HB.out | apply wA | apply wN | apply wD | refine wS ?_ (IsS145.ge HI226.out) | refine wS ?_ GE222.out | refine wS ?_ GE223.out | refine wS ?_ GE237.out | refine wS ?_ GE246.out) | exact HB.out)); rintro e w80 ⟨rfl, hi, hb, hk⟩; have n0_ := mk0 (KeepBut.blk hk (g' := gb222) (o := .cells #[.int .i64 0, .int .i64 0, .string (⟨#[]⟩ : ByteArray)] 34 (0, 0)) (by (with_reducible repeat (first | apply bN | apply bD | apply bA)); exact BK222.out) NB222_226.out (by simp)); have n1_ := mk0 (KeepBut.blk hk (g' := gb223) (o := .cells #[.int .i64 0, .int .i64 0, .string (⟨#[]⟩ : ByteArray)] 34 (0, 0)) (by (with_reducible repeat (first | apply bN | apply bD | apply bA)); exact BK223.out) NB223_226.out (by simp)); have n2_ := mk0 (KeepBut.blk hk (g' := gb237) (o := .cells #[.int .i64 t233, .int .i64 t234, .string t235] 34 (0, 0)) (by (with_reducible repeat (first | apply bN | apply bD | apply bA)); exact BK237.out) NB237_226.out (by simp)); have n3_ := mk0 (KeepBut.blk hk (g' := gb246) (o := .cells #[.int .i64 t242, .int .i64 x247001_53, .string t244] 34 (0, 0)) (by (with_reducible repeat (first | apply bN | apply bD | apply bA)); exact BK246.out) NB246_226.out (by simp)); have n4_ := mk0 (hb); have n5_ := mk0 (hi); clear BK222; clear BK223; clear BK237; clear BK246; clear HB; clear HI226; have BK222 := n0_; have BK223 := n1_; have BK237 := n2_; have BK246 := n3_; have HB := n4_; have HI226 := n5_; clear n0_ n1_ n2_ n3_ n4_ n5_; (try clear hb); (try clear hb2); (try clear hk); (try clear hi)))
          go_meet
          case rel => exact ⟨_, ((t254 == 0)), (t255), (by first | rfl | (simp; done) | (simp [*]; done)), H', ⟨by have := HJ4.out; have := HJ18.out; have := HJ30.out; have := HJ53.out; first | omega | exact Nat.le_refl _⟩, ⟨by (with_reducible repeat (first | apply bN | apply bD | apply bA)); exact BK222.out⟩, ⟨by (with_reducible repeat (first | apply bN | apply bD | apply bA)); exact BK223.out⟩, ⟨by (with_reducible repeat (first | apply bN | apply bD | apply bA)); exact BK237.out⟩, ⟨by (with_reducible repeat (first | apply bN | apply bD | apply bA)); exact BK246.out⟩, ⟨by repeat (first | (with_reducible first | exact HI226.out | apply IsS145.alloc | apply IsS145.drewN | apply IsS145.drew | apply IsS145.set_1 | refine IsS145.far ?_ NB226_222.out _ | refine IsS145.far ?_ NB226_223.out _ | refine IsS145.far ?_ NB226_237.out _ | refine IsS145.far ?_ NB226_246.out _) | exact HI226.out)⟩, ⟨by repeat (first | (with_reducible first | exact HB.out | apply wA | apply wN | apply wD | refine wS ?_ (IsS145.ge HI226.out) | refine wS ?_ GE222.out | refine wS ?_ GE223.out | refine wS ?_ GE237.out | refine wS ?_ GE246.out) | exact HB.out)⟩⟩
        rw [if_neg c69] at H
        have c69b0 : (t242 == t233) = false := beq_eq_false_iff_ne.mpr c69
        have c69b1 : (t242 != t233) = true := bne_iff_ne.mpr c69
        have H' := mk0 H
        clear H
        have hnb81 := NB246_222.out
        have hnc81 := NB222_246.out
        have hnb82 := NB246_223.out
        have hnc82 := NB223_246.out
        have hnb83 := NB246_237.out
        have hnc83 := NB237_246.out
        have hnb84 := NB246_226.out
        have hnc84 := NB226_246.out
        have hcz85_0 : wc.cell? ⟨gb246, 0, none⟩ = some (.int .i64 t242) := (bC BK246.out 0).trans rfl
        have hcz85_1 : wc.cell? ⟨gb246, 1, none⟩ = some (.int .i64 x247001_53) := (bC BK246.out 1).trans rfl
        have hcz85_2 : wc.cell? ⟨gb246, 2, none⟩ = some (.string t244) := (bC BK246.out 2).trans rfl
        have hfz85_0 := bF BK246.out 0
        have hfz85_1 := bF BK246.out 1
        have hfz85_2 := bF BK246.out 2
        go_wp2_with (first | (go_at_call 57; (with_reducible refine (spec_l1Integer.calls t242 true _ A67.out).mono ?_); rintro e w' ⟨rfl, ⟨nd, rfl⟩⟩; have hnb86 := NB237_222.out; have hnc86 := NB222_237.out; have hnb87 := NB237_223.out; have hnc87 := NB223_237.out; have hnb88 := NB237_226.out; have hnc88 := NB226_237.out; have hcz89_0 : wc.cell? ⟨gb237, 0, none⟩ = some (.int .i64 t233) := (bC BK237.out 0).trans rfl; have hcz89_1 : wc.cell? ⟨gb237, 1, none⟩ = some (.int .i64 t234) := (bC BK237.out 1).trans rfl; have hcz89_2 : wc.cell? ⟨gb237, 2, none⟩ = some (.string t235) := (bC BK237.out 2).trans rfl; have hfz89_0 := bF BK237.out 0; have hfz89_1 := bF BK237.out 1; have hfz89_2 := bF BK237.out 2))
        go_meet
        case rel => exact ⟨_, (false), (x227001_53), (by first | rfl | (simp; done) | (simp [*]; done)), H', ⟨by have := HJ4.out; have := HJ18.out; have := HJ30.out; have := HJ53.out; first | omega | exact Nat.le_refl _⟩, ⟨by (with_reducible repeat (first | apply bN | apply bD | apply bA)); exact BK222.out⟩, ⟨by (with_reducible repeat (first | apply bN | apply bD | apply bA)); exact BK223.out⟩, ⟨by (with_reducible repeat (first | apply bN | apply bD | apply bA)); exact BK237.out⟩, ⟨by (with_reducible repeat (first | apply bN | apply bD | apply bA)); exact BK246.out⟩, ⟨by repeat (first | (with_reducible first | exact HI226.out | apply IsS145.alloc | apply IsS145.drewN | apply IsS145.drew | apply IsS145.set_1 | refine IsS145.far ?_ NB226_222.out _ | refine IsS145.far ?_ NB226_223.out _ | refine IsS145.far ?_ NB226_237.out _ | refine IsS145.far ?_ NB226_246.out _) | exact HI226.out)⟩, ⟨by repeat (first | (with_reducible first | exact HB.out | apply wA | apply wN | apply wD | refine wS ?_ (IsS145.ge HI226.out) | refine wS ?_ GE222.out | refine wS ?_ GE223.out | refine wS ?_ GE237.out | refine wS ?_ GE246.out) | exact HB.out)⟩⟩
      replace c68 := Bool.eq_false_iff.mpr c68
      subst c68
      have H1 : (spec_DrawBinary.j4 kj53 (wrap64 (1 + t227)) x7_18 false t224 x227001_53 t233 t234 t235 t242 x247001_53 t244) = some (r1, r2, r3, r4, r5, r6, r7) := by rw [if_neg (show ¬ (false = true) by decide)] at H; exact H
      clear H
      have H := H1
      clear H1
      have H' := mk0 H
      clear H
      have hnb90 := NB246_222.out
      have hnc90 := NB222_246.out
      have hnb91 := NB246_223.out
      have hnc91 := NB223_246.out
      have hnb92 := NB246_237.out
      have hnc92 := NB237_246.out
      have hnb93 := NB246_226.out
      have hnc93 := NB226_246.out
      have hcz94_0 : wc.cell? ⟨gb246, 0, none⟩ = some (.int .i64 t242) := (bC BK246.out 0).trans rfl
      have hcz94_1 : wc.cell? ⟨gb246, 1, none⟩ = some (.int .i64 x247001_53) := (bC BK246.out 1).trans rfl
      have hcz94_2 : wc.cell? ⟨gb246, 2, none⟩ = some (.string t244) := (bC BK246.out 2).trans rfl
      have hfz94_0 := bF BK246.out 0
      have hfz94_1 := bF BK246.out 1
      have hfz94_2 := bF BK246.out 2
      go_wp2_with (first | (go_at_call 57; (with_reducible refine (spec_l1Integer.calls t242 false _ A67.out).mono ?_); rintro e w' ⟨rfl, ⟨nd, rfl⟩⟩))
      go_meet
      case rel => exact ⟨_, (false), (x227001_53), (by first | rfl | (simp; done) | (simp [*]; done)), H', ⟨by have := HJ4.out; have := HJ18.out; have := HJ30.out; have := HJ53.out; first | omega | exact Nat.le_refl _⟩, ⟨by (with_reducible repeat (first | apply bN | apply bD | apply bA)); exact BK222.out⟩, ⟨by (with_reducible repeat (first | apply bN | apply bD | apply bA)); exact BK223.out⟩, ⟨by (with_reducible repeat (first | apply bN | apply bD | apply bA)); exact BK237.out⟩, ⟨by (with_reducible repeat (first | apply bN | apply bD | apply bA)); exact BK246.out⟩, ⟨by repeat (first | (with_reducible first | exact HI226.out | apply IsS145.alloc | apply IsS145.drewN | apply IsS145.drew | apply IsS145.set_1 | refine IsS145.far ?_ NB226_222.out _ | refine IsS145.far ?_ NB226_223.out _ | refine IsS145.far ?_ NB226_237.out _ | refine IsS145.far ?_ NB226_246.out _) | exact HI226.out)⟩, ⟨by repeat (first | (with_reducible first | exact HB.out | apply wA | apply wN | apply wD | refine wS ?_ (IsS145.ge HI226.out) | refine wS ?_ GE222.out | refine wS ?_ GE223.out | refine wS ?_ GE237.out | refine wS ?_ GE246.out) | exact HB.out)⟩⟩
    rw [if_neg c66] at H
    have c66b0 : decide (17 ≤ (wrap64 (1 + t227))) = false := decide_eq_false c66
    clear c66
    (first | rw [c66b0] | (simp only [i64_w, i32_w]; rw [c66b0]) | rw [c66b4] | rw [c66b3] | skip)
    have H' := mk0 H
    clear H
    go_wp2
    go_meet
    case rel => exact ⟨_, (false), (x227001_53), (by first | rfl | (simp; done) | (simp [*]; done)), H', ⟨by have := HJ4.out; have := HJ18.out; have := HJ30.out; have := HJ53.out; first | omega | exact Nat.le_refl _⟩, ⟨by (with_reducible repeat (first | apply bN | apply bD | apply bA)); exact BK222.out⟩, ⟨by (with_reducible repeat (first | apply bN | apply bD | apply bA)); exact BK223.out⟩, ⟨by (with_reducible repeat (first | apply bN | apply bD | apply bA)); exact BK237.out⟩, ⟨by (with_reducible repeat (first | apply bN | apply bD | apply bA)); exact BK246.out⟩, ⟨by repeat (first | (with_reducible first | exact HI226.out | apply IsS145.alloc | apply IsS145.drewN | apply IsS145.drew | apply IsS145.set_1 | refine IsS145.far ?_ NB226_222.out _ | refine IsS145.far ?_ NB226_223.out _ | refine IsS145.far ?_ NB226_237.out _ | refine IsS145.far ?_ NB226_246.out _) | exact HI226.out)⟩, ⟨by repeat (first | (with_reducible first | exact HB.out | apply wA | apply wN | apply wD | refine wS ?_ (IsS145.ge HI226.out) | refine wS ?_ GE222.out | refine wS ?_ GE223.out | refine wS ?_ GE237.out | refine wS ?_ GE246.out) | exact HB.out)⟩⟩
  clear HC65
  try clear c1
  try clear c2
  try clear p2
  try clear c3
  try clear c4
  try clear c5
  try clear c6
  try clear p6
  try clear c7
  try clear c8
  try clear c9
  try clear c11
  try clear c11b0
  try clear c12
  try clear c12b0
  try clear c14
  try clear c14b0
  try clear c14b1
  try clear c22
  try clear c23
  try clear c24
  try clear c27
  try clear c27b0
  try clear c27b1
  try clear c34
  try clear c35
  try clear c36
  try clear c37
  try clear c39
  try clear c39b0
  try clear c41
  try clear c43
  try clear c44
  try clear c45
  try clear c46
  try clear c49
  try clear c50
  try clear c51
  try clear c52
  try clear c54
  try clear c55
  try clear c58
  try clear c58b0
  try clear c58b1
  try clear c60
  try clear c61
  try clear c62
  try clear c63
  try clear p64
  try clear c66
  try clear c66b0
  try clear c68
  try clear c69
  try clear c69b0
  try clear c69b1
  try clear c71
  try clear c72
  try clear c73
  try clear c74
  try clear c76
  try clear c77
  try clear c78
  try clear c81
  try clear c82
  try clear c83
  try clear c84
  try clear c86
  try clear c87
  try clear c88
  try clear c89
  try clear c90
  try clear c91
  try clear c92
  try clear c93
  try clear hcz25_0
  try clear hcz25_1
  try clear hcz25_2
  try clear hcz38_0
  try clear hcz38_1
  try clear hcz38_2
  try clear hcz47_0
  try clear hcz47_1
  try clear hcz47_2
  try clear hcz53_0
  try clear hcz53_1
  try clear hcz53_2
  try clear hcz64_0
  try clear hcz64_1
  try clear hcz64_2
  try clear hcz75_0
  try clear hcz75_1
  try clear hcz75_2
  try clear hcz79_0
  try clear hcz79_1
  try clear hcz79_2
  try clear hcz85_0
  try clear hcz85_1
  try clear hcz85_2
  try clear hcz89_0
  try clear hcz89_1
  try clear hcz89_2
  try clear hcz94_0
  try clear hcz94_1
  try clear hcz94_2
  try clear hfz25_0
  try clear hfz25_1
  try clear hfz25_2
  try clear hfz38_0
  try clear hfz38_1
  try clear hfz38_2
  try clear hfz47_0
  try clear hfz47_1
  try clear hfz47_2
  try clear hfz53_0
  try clear hfz53_1
  try clear hfz53_2
  try clear hfz64_0
  try clear hfz64_1
  try clear hfz64_2
  try clear hfz75_0
  try clear hfz75_1
  try clear hfz75_2
  try clear hfz79_0
  try clear hfz79_1
  try clear hfz79_2
  try clear hfz85_0
  try clear hfz85_1
  try clear hfz85_2
  try clear hfz89_0
  try clear hfz89_1
  try clear hfz89_2
  try clear hfz94_0
  try clear hfz94_1
  try clear hfz94_2
  try clear p2
  try clear p6
  try clear p64
  obtain ⟨kq, x78_64, x227001_64, rfl, HA, HJ64, BK222, BK223, BK237, BK246, HI226, HB⟩ := hcut
  cases kq with
  | zero => exact absurd HA.out (by simp [spec_DrawBinary.j4])
  | succ kj64 =>
  have H := HA.out
  clear HA
  simp only [spec_DrawBinary.j4] at H
  have HC95 := mk0 H
  clear H
  go_upto_if 78 with (fail)
  go_cut [] (fun wc => ∃ (kq : Nat) (x227001_94 : Int) (x238001_94 : Int) (x247001_94 : Int), Aside0 (spec_DrawBinary.j5 kq (wrap64 (1 + t227)) t224 x227001_94 t233 x238001_94 t235 t242 x247001_94 t244 = some (r1, r2, r3, r4, r5, r6, r7)) ∧ Aside0 (kq ≤ kj64) ∧ Aside0 (wc.heap[gb222]? = some (.cells #[.int .i64 0, .int .i64 0, .string (⟨#[]⟩ : ByteArray)] 34 (0, 0))) ∧ Aside0 (wc.heap[gb223]? = some (.cells #[.int .i64 0, .int .i64 0, .string (⟨#[]⟩ : ByteArray)] 34 (0, 0))) ∧ Aside0 (wc.heap[gb237]? = some (.cells #[.int .i64 t233, .int .i64 x238001_94, .string t235] 34 (0, 0))) ∧ Aside0 (wc.heap[gb246]? = some (.cells #[.int .i64 t242, .int .i64 x247001_94, .string t244] 34 (0, 0))) ∧ Aside0 (IsS145 w wc g226 t224 x227001_94) ∧ Aside0 (Below w.heap.size w wc))
  case first =>
    have H := HC95.out
    clear HC95
    by_cases c96 : x78_64 = true
    · subst c96
      have H1 : ((some (([8, 16, 32, 64, 7, 15, 31, 63] : List Int) : List Int)).bind fun y256 => ((spec_l1Rd_pick.f kj64 t224 x227001_64 8).bind fun bt259 => (if 0 ≤ bt259.1 then (if bt259.1 < (y256.length : Int) then ((spec_l1Max.f kj64 x7_18).bind fun t262 => (if (rd y256 bt259.1) > (wrap64 (t262 / 2)) then ((some (([1, 5, 100] : List Int) : List Int)).bind fun y263 => ((spec_l1Rd_pick.f kj64 t224 bt259.2 3).bind fun bt266 => (if 0 ≤ bt266.1 then (if bt266.1 < (y263.length : Int) then (if x7_18 ≥ 7 then (spec_DrawBinary.j5 kj64 (wrap64 (1 + t227)) t224 bt266.2 t233 (wrap64 (-(rd y263 bt266.1))) t235 t242 8 t244) else (spec_DrawBinary.j5 kj64 (wrap64 (1 + t227)) t224 bt266.2 t233 (rd y263 bt266.1) t235 t242 8 t244)) else (none)) else (none)))) else ((some (([1, 5, 100] : List Int) : List Int)).bind fun y269 => ((spec_l1Rd_pick.f kj64 t224 bt259.2 3).bind fun bt272 => (if 0 ≤ bt272.1 then (if bt272.1 < (y269.length : Int) then (if x7_18 ≥ 7 then (spec_DrawBinary.j5 kj64 (wrap64 (1 + t227)) t224 bt272.2 t233 (wrap64 (-(rd y269 bt272.1))) t235 t242 (rd y256 bt259.1) t244) else (spec_DrawBinary.j5 kj64 (wrap64 (1 + t227)) t224 bt272.2 t233 (rd y269 bt272.1) t235 t242 (rd y256 bt259.1) t244)) else (none)) else (none)))))) else (none)) else (none)))) = some (r1, r2, r3, r4, r5, r6, r7) := by rw [if_pos rfl] at H; exact H
      clear H
      have H := H1
      clear H1
      obtain ⟨y256, hy256⟩ : ∃ y_ : List Int, y_ = (([8, 16, 32, 64, 7, 15, 31, 63] : List Int)) := ⟨_, rfl⟩
      replace H : ((spec_l1Rd_pick.f kj64 t224 x227001_64 8).bind fun bt259 => (if 0 ≤ bt259.1 then (if bt259.1 < (y256.length : Int) then ((spec_l1Max.f kj64 x7_18).bind fun t262 => (if (rd y256 bt259.1) > (wrap64 (t262 / 2)) then ((some (([1, 5, 100] : List Int) : List Int)).bind fun y263 => ((spec_l1Rd_pick.f kj64 t224 bt259.2 3).bind fun bt266 => (if 0 ≤ bt266.1 then (if bt266.1 < (y263.length : Int) then (if x7_18 ≥ 7 then (spec_DrawBinary.j5 kj64 (wrap64 (1 + t227)) t224 bt266.2 t233 (wrap64 (-(rd y263 bt266.1))) t235 t242 8 t244) else (spec_DrawBinary.j5 kj64 (wrap64 (1 + t227)) t224 bt266.2 t233 (rd y263 bt266.1) t235 t242 8 t244)) else (none)) else (none)))) else ((some (([1, 5, 100] : List Int) : List Int)).bind fun y269 => ((spec_l1Rd_pick.f kj64 t224 bt259.2 3).bind fun bt272 => (if 0 ≤ bt272.1 then (if bt272.1 < (y269.length : Int) then (if x7_18 ≥ 7 then (spec_DrawBinary.j5 kj64 (wrap64 (1 + t227)) t224 bt272.2 t233 (wrap64 (-(rd y269 bt272.1))) t235 t242 (rd y256 bt259.1) t244) else (spec_DrawBinary.j5 kj64 (wrap64 (1 + t227)) t224 bt272.2 t233 (rd y269 bt272.1) t235 t242 (rd y256 bt259.1) t244)) else (none)) else (none)))))) else (none)) else (none))) = some (r1, r2, r3, r4, r5, r6, r7) := by first | (rw [hy256]; with_reducible exact H) | (have H2_ := (Option.bind_some _ _).symm.trans H; rw [hy256]; with_reducible exact H2_) | (have H2_ := (Option.bind_some _ _).symm.trans H; with_reducible exact H2_) | with_reducible exact H | (rw [hy256]; exact H) | exact H
      have Ny256 := mk0 hy256
      clear hy256
      replace H := Option.bind_eq_some_iff.mp H
      obtain ⟨⟨t259, t260⟩, A970, H⟩ := H
      replace H : (if 0 ≤ t259 then (if t259 < (y256.length : Int) then ((spec_l1Max.f kj64 x7_18).bind fun t262 => (if (rd y256 t259) > (wrap64 (t262 / 2)) then ((some (([1, 5, 100] : List Int) : List Int)).bind fun y263 => ((spec_l1Rd_pick.f kj64 t224 t260 3).bind fun bt266 => (if 0 ≤ bt266.1 then (if bt266.1 < (y263.length : Int) then (if x7_18 ≥ 7 then (spec_DrawBinary.j5 kj64 (wrap64 (1 + t227)) t224 bt266.2 t233 (wrap64 (-(rd y263 bt266.1))) t235 t242 8 t244) else (spec_DrawBinary.j5 kj64 (wrap64 (1 + t227)) t224 bt266.2 t233 (rd y263 bt266.1) t235 t242 8 t244)) else (none)) else (none)))) else ((some (([1, 5, 100] : List Int) : List Int)).bind fun y269 => ((spec_l1Rd_pick.f kj64 t224 t260 3).bind fun bt272 => (if 0 ≤ bt272.1 then (if bt272.1 < (y269.length : Int) then (if x7_18 ≥ 7 then (spec_DrawBinary.j5 kj64 (wrap64 (1 + t227)) t224 bt272.2 t233 (wrap64 (-(rd y269 bt272.1))) t235 t242 (rd y256 t259) t244) else (spec_DrawBinary.j5 kj64 (wrap64 (1 + t227)) t224 bt272.2 t233 (rd y269 bt272.1) t235 t242 (rd y256 t259) t244)) else (none)) else (none)))))) else (none)) else (none)) = some (r1, r2, r3, r4, r5, r6, r7) := H
      have A97 := mk0 A970
      clear A970
      by_cases c98 : 0 ≤ t259
      · rw [if_pos c98] at H
        have c98b0 : decide (0 ≤ t259) = true := decide_eq_true c98
        clear c98
        (first | rw [c98b0] | (simp only [i64_w, i32_w]; rw [c98b0]) | rw [c98b4] | rw [c98b3] | skip)
        by_cases c99 : t259 < (y256.length : Int)
        · rw [if_pos c99] at H
          have c99b0 : decide (t259 < (y256.length : Int)) = true := decide_eq_true c99
          clear c99
          replace H := Option.bind_eq_some_iff.mp H
          obtain ⟨t262, A1000, H⟩ := H
          replace H : (if (rd y256 t259) > (wrap64 (t262 / 2)) then ((some (([1, 5, 100] : List Int) : List Int)).bind fun y263 => ((spec_l1Rd_pick.f kj64 t224 t260 3).bind fun bt266 => (if 0 ≤ bt266.1 then (if bt266.1 < (y263.length : Int) then (if x7_18 ≥ 7 then (spec_DrawBinary.j5 kj64 (wrap64 (1 + t227)) t224 bt266.2 t233 (wrap64 (-(rd y263 bt266.1))) t235 t242 8 t244) else (spec_DrawBinary.j5 kj64 (wrap64 (1 + t227)) t224 bt266.2 t233 (rd y263 bt266.1) t235 t242 8 t244)) else (none)) else (none)))) else ((some (([1, 5, 100] : List Int) : List Int)).bind fun y269 => ((spec_l1Rd_pick.f kj64 t224 t260 3).bind fun bt272 => (if 0 ≤ bt272.1 then (if bt272.1 < (y269.length : Int) then (if x7_18 ≥ 7 then (spec_DrawBinary.j5 kj64 (wrap64 (1 + t227)) t224 bt272.2 t233 (wrap64 (-(rd y269 bt272.1))) t235 t242 (rd y256 t259) t244) else (spec_DrawBinary.j5 kj64 (wrap64 (1 + t227)) t224 bt272.2 t233 (rd y269 bt272.1) t235 t242 (rd y256 t259) t244)) else (none)) else (none))))) = some (r1, r2, r3, r4, r5, r6, r7) := H
          have A100 := mk0 A1000
          clear A1000
          by_cases c101 : (rd y256 t259) > (wrap64 (t262 / 2))
          · rw [if_pos c101] at H
            have c101b0 : decide ((wrap64 (t262 / 2)) < (rd y256 t259)) = true := decide_eq_true c101
            clear c101
            obtain ⟨y263, hy263⟩ : ∃ y_ : List Int, y_ = (([1, 5, 100] : List Int)) := ⟨_, rfl⟩
            replace H : ((spec_l1Rd_pick.f kj64 t224 t260 3).bind fun bt266 => (if 0 ≤ bt266.1 then (if bt266.1 < (y263.length : Int) then (if x7_18 ≥ 7 then (spec_DrawBinary.j5 kj64 (wrap64 (1 + t227)) t224 bt266.2 t233 (wrap64 (-(rd y263 bt266.1))) t235 t242 8 t244) else (spec_DrawBinary.j5 kj64 (wrap64 (1 + t227)) t224 bt266.2 t233 (rd y263 bt266.1) t235 t242 8 t244)) else (none)) else (none))) = some (r1, r2, r3, r4, r5, r6, r7) := by first | (rw [hy263]; with_reducible exact H) | (have H2_ := (Option.bind_some _ _).symm.trans H; rw [hy263]; with_reducible exact H2_) | (have H2_ := (Option.bind_some _ _).symm.trans H; with_reducible exact H2_) | with_reducible exact H | (rw [hy263]; exact H) | exact H
            have Ny263 := mk0 hy263
            clear hy263
            replace H := Option.bind_eq_some_iff.mp H
            obtain ⟨⟨t266, t267⟩, A1020, H⟩ := H
            replace H : (if 0 ≤ t266 then (if t266 < (y263.length : Int) then (if x7_18 ≥ 7 then (spec_DrawBinary.j5 kj64 (wrap64 (1 + t227)) t224 t267 t233 (wrap64 (-(rd y263 t266))) t235 t242 8 t244) else (spec_DrawBinary.j5 kj64 (wrap64 (1 + t227)) t224 t267 t233 (rd y263 t266) t235 t242 8 t244)) else (none)) else (none)) = some (r1, r2, r3, r4, r5, r6, r7) := H
            have A102 := mk0 A1020
            clear A1020
            by_cases c103 : 0 ≤ t266
            · rw [if_pos c103] at H
              have c103b0 : decide (0 ≤ t266) = true := decide_eq_true c103
              clear c103
              by_cases c104 : t266 < (y263.length : Int)
              · rw [if_pos c104] at H
                have c104b0 : decide (t266 < (y263.length : Int)) = true := decide_eq_true c104
                clear c104
                by_cases c105 : x7_18 ≥ 7
                · rw [if_pos c105] at H
                  have c105b0 : decide (7 ≤ x7_18) = true := decide_eq_true c105
                  clear c105
                  have H' := mk0 H
                  clear H
                  try go_wp2_with (first | ((with_reducible refine gate_dst (N := 79) rfl ?_); refine Kd.R_lit (Kd.int .i64) _ 2 ?hg (N := 79) ?hd (xs := ([8, 16, 32, 64, 7, 15, 31, 63] : List Int)) (inner := [.int .i64 8, .int .i64 16, .int .i64 32, .int .i64 64, .int .i64 7, .int .i64 15, .int .i64 31, .int .i64 63]) (ok := fun _ => True) (okp := fun _ => True) ?hr ?hp (fun _ hk => hk) trivial (Below.refl _ _) (Nat.le_refl _) (by simp) ?_; (case hd => rfl); (case hg => rfl); (case hr => first | (go_simp; done) | (go_simp; rfl)); (case hp => exact (Reps.one (show Kd.M (Kd.int .i64) _ _ _ 8 [.int .i64 8] from rfl) (Reps.one (show Kd.M (Kd.int .i64) _ _ _ 16 [.int .i64 16] from rfl) (Reps.one (show Kd.M (Kd.int .i64) _ _ _ 32 [.int .i64 32] from rfl) (Reps.one (show Kd.M (Kd.int .i64) _ _ _ 64 [.int .i64 64] from rfl) (Reps.one (show Kd.M (Kd.int .i64) _ _ _ 7 [.int .i64 7] from rfl) (Reps.one (show Kd.M (Kd.int .i64) _ _ _ 15 [.int .i64 15] from rfl) (Reps.one (show Kd.M (Kd.int .i64) _ _ _ 31 [.int .i64 31] from rfl) (Reps.one (show Kd.M (Kd.int .i64) _ _ _ 63 [.int .i64 63] from rfl) (Reps.none _ _)))))))))); intro v257 w106 ho107 hb hg_ hnew_; clear hg_ hnew_; (first | rw [← Ny256.out] at ho107 | (simp only [Int.reduceToNat] at ho107; rw [← Ny256.out] at ho107)); have n0_ := mk0 (Kd.R_lower ho107 (below_size (by repeat (first | (with_reducible first | exact HB.out | apply wA | apply wN | apply wD | refine wS ?_ (IsS145.ge HI226.out) | refine wS ?_ GE222.out | refine wS ?_ GE223.out | refine wS ?_ GE237.out | refine wS ?_ GE246.out) | exact HB.out)))); have n1_ := mk0 (bB (g := gb222) (o := .cells #[.int .i64 0, .int .i64 0, .string (⟨#[]⟩ : ByteArray)] 34 (0, 0)) (by (with_reducible repeat (first | apply bN | apply bD | apply bA)); exact BK222.out) hb); have n2_ := mk0 (bB (g := gb223) (o := .cells #[.int .i64 0, .int .i64 0, .string (⟨#[]⟩ : ByteArray)] 34 (0, 0)) (by (with_reducible repeat (first | apply bN | apply bD | apply bA)); exact BK223.out) hb); have n3_ := mk0 (bB (g := gb237) (o := .cells #[.int .i64 t233, .int .i64 t234, .string t235] 34 (0, 0)) (by (with_reducible repeat (first | apply bN | apply bD | apply bA)); exact BK237.out) hb); have n4_ := mk0 (bB (g := gb246) (o := .cells #[.int .i64 t242, .int .i64 x247001_53, .string t244] 34 (0, 0)) (by (with_reducible repeat (first | apply bN | apply bD | apply bA)); exact BK246.out) hb); have n5_ := mk0 (IsS145.below (by repeat (first | (with_reducible first | exact HI226.out | apply IsS145.alloc | apply IsS145.drewN | apply IsS145.drew | apply IsS145.set_1 | refine IsS145.far ?_ NB226_222.out _ | refine IsS145.far ?_ NB226_223.out _ | refine IsS145.far ?_ NB226_237.out _ | refine IsS145.far ?_ NB226_246.out _) | exact HI226.out)) hb); have n6_ := mk0 (below_step (by repeat (first | (with_reducible first | exact HB.out | apply wA | apply wN | apply wD | refine wS ?_ (IsS145.ge HI226.out) | refine wS ?_ GE222.out | refine wS ?_ GE223.out | refine wS ?_ GE237.out | refine wS ?_ GE246.out) | exact HB.out)) hb); clear BK222; clear BK223; clear BK237; clear BK246; clear HI226; clear HB; have HO258 := n0_; have BK222 := n1_; have BK223 := n2_; have BK237 := n3_; have BK246 := n4_; have HI226 := n5_; have HB := n6_; clear n0_ n1_ n2_ n3_ n4_ n5_ n6_; clear hb ho107) | ((with_reducible refine gate_callee (f := 89) rfl ?_); refine goesL_ (some 81) rfl rfl Try.func89 (by kernel_rfl) rfl #[.pointer (some ⟨g226, 0, none⟩), .int .i64 8] rfl (by (try simp only [List.map_toArray, List.map_cons, List.map_nil]); first | done | rfl | (simp only [List.length_drop, List.length_take]; rfl)) ?_; (with_reducible refine (spec_l1Rd_pick.calls kj64 g226 t224 x227001_64 8 t259 t260 w _ ?side1 ?side2 A97.out).mono ?_); (case side1 => repeat (first | (with_reducible first | exact HI226.out | apply IsS145.alloc | apply IsS145.drewN | apply IsS145.drew | apply IsS145.set_1 | refine IsS145.far ?_ NB226_222.out _ | refine IsS145.far ?_ NB226_223.out _ | refine IsS145.far ?_ NB226_237.out _ | refine IsS145.far ?_ NB226_246.out _) | exact HI226.out)); (case side2 => repeat (first | (with_reducible first | exact HB.out | apply wA | apply wN | apply wD | refine wS ?_ (IsS145.ge HI226.out) | refine wS ?_ GE222.out | refine wS ?_ GE223.out | refine wS ?_ GE237.out | refine wS ?_ GE246.out) | exact HB.out)); rintro e w108 ⟨rfl, hi, hb, hk⟩; refine ⟨_, rfl, ?_⟩; have n0_ := mk0 (KeepBut.blk hk (g' := gb222) (o := .cells #[.int .i64 0, .int .i64 0, .string (⟨#[]⟩ : ByteArray)] 34 (0, 0)) (by (with_reducible repeat (first | apply bN | apply bD | apply bA)); exact BK222.out) NB222_226.out (by simp)); have n1_ := mk0 (KeepBut.blk hk (g' := gb223) (o := .cells #[.int .i64 0, .int .i64 0, .string (⟨#[]⟩ : ByteArray)] 34 (0, 0)) (by (with_reducible repeat (first | apply bN | apply bD | apply bA)); exact BK223.out) NB223_226.out (by simp)); have n2_ := mk0 (KeepBut.blk hk (g' := gb237) (o := .cells #[.int .i64 t233, .int .i64 t234, .string t235] 34 (0, 0)) (by (with_reducible repeat (first | apply bN | apply bD | apply bA)); exact BK237.out) NB237_226.out (by simp)); have n3_ := mk0 (KeepBut.blk hk (g' := gb246) (o := .cells #[.int .i64 t242, .int .i64 x247001_53, .string t244] 34 (0, 0)) (by (with_reducible repeat (first | apply bN | apply bD | apply bA)); exact BK246.out) NB246_226.out (by simp)); have n4_ := mk0 (Kd.R_mono (Kd.R_keep (IsS145.apart (show IsS145 w _ g226 t224 x227001_64 from by repeat (first | (with_reducible first | exact HI226.out | apply IsS145.alloc | apply IsS145.drewN | apply IsS145.drew | apply IsS145.set_1 | refine IsS145.far ?_ NB226_222.out _ | refine IsS145.far ?_ NB226_223.out _ | refine IsS145.far ?_ NB226_237.out _ | refine IsS145.far ?_ NB226_246.out _) | exact HI226.out)) (by (with_reducible repeat (first | apply Kd.R_alloc | apply Kd.R_drewN | apply Kd.R_drew)); exact HO258.out) (by decide)) hk (fun _ h => h.2)) (fun _ h => h.1)); have n5_ := mk0 (hb); have n6_ := mk0 (hi); clear BK222; clear BK223; clear BK237; clear BK246; clear HO258; clear HB; clear HI226; have BK222 := n0_; have BK223 := n1_; have BK237 := n2_; have BK246 := n3_; have HO258 := n4_; have HB := n5_; have HI226 := n6_; clear n0_ n1_ n2_ n3_ n4_ n5_ n6_; (try clear hb); (try clear hb2); (try clear hk); (try clear hi); obtain ⟨Ao109, co109, eo109⟩ := Kd.R_slice HO258.out; subst eo109; have p261 : 0 ≤ (t259 : Int) := of_decide_eq_true (by first | (with_reducible assumption) | assumption); have q261 : t259 < (y256.length : Int) := of_decide_eq_true (by first | (with_reducible assumption) | assumption); obtain ⟨ad261, e261, hx261_0⟩ := Kd.at_int (Kd.R_reads' HO258.out).2.2 t259 p261 q261; cases e261; replace p261 := eq_true p261; replace q261 := eq_true q261; have hnb110 := NB246_222.out; have hnc110 := NB222_246.out; have hnb111 := NB246_223.out; have hnc111 := NB223_246.out; have hnb112 := NB246_237.out; have hnc112 := NB237_246.out; have hnb113 := NB246_226.out; have hnc113 := NB226_246.out; have hcz114_0 : w108.cell? ⟨gb246, 0, none⟩ = some (.int .i64 t242) := (bC BK246.out 0).trans rfl; have hcz114_1 : w108.cell? ⟨gb246, 1, none⟩ = some (.int .i64 x247001_53) := (bC BK246.out 1).trans rfl; have hcz114_2 : w108.cell? ⟨gb246, 2, none⟩ = some (.string t244) := (bC BK246.out 2).trans rfl; have hfz114_0 := bF BK246.out 0; have hfz114_1 := bF BK246.out 1; have hfz114_2 := bF BK246.out 2))
                  have n0_ : Aside0 (Kd.R (Kd.int .i64) 2 (w108.setCell ⟨gb246, 1, none⟩ (.int .i64 (rd y256 t259))) w.heap.size (fun _ => True) (.slice (some ad261) y256.length co109) y256) := ⟨by (with_reducible repeat (first | apply Kd.R_alloc | apply Kd.R_drewN | apply Kd.R_drew)); exact Kd.R_mono (Kd.R_far (p := ⟨gb246, 1, none⟩) (Kd.R_types HO258.out BK246.out (by decide)) (fun _ hk => hk.2) (.int .i64 (rd y256 t259))) (fun _ hk => trivial)⟩
                  have n1_ : Aside0 ((w108.setCell ⟨gb246, 1, none⟩ (.int .i64 (rd y256 t259))).heap[gb222]? = some (.cells #[.int .i64 0, .int .i64 0, .string (⟨#[]⟩ : ByteArray)] 34 (0, 0))) := ⟨by (with_reducible repeat (first | apply bN | apply bD | apply bA)); refine blk_far ?_ NB222_246.out _; (with_reducible repeat (first | apply bN | apply bD | apply bA)); exact BK222.out⟩
                  have n2_ : Aside0 ((w108.setCell ⟨gb246, 1, none⟩ (.int .i64 (rd y256 t259))).heap[gb223]? = some (.cells #[.int .i64 0, .int .i64 0, .string (⟨#[]⟩ : ByteArray)] 34 (0, 0))) := ⟨by (with_reducible repeat (first | apply bN | apply bD | apply bA)); refine blk_far ?_ NB223_246.out _; (with_reducible repeat (first | apply bN | apply bD | apply bA)); exact BK223.out⟩
                  have n3_ : Aside0 ((w108.setCell ⟨gb246, 1, none⟩ (.int .i64 (rd y256 t259))).heap[gb237]? = some (.cells #[.int .i64 t233, .int .i64 t234, .string t235] 34 (0, 0))) := ⟨by (with_reducible repeat (first | apply bN | apply bD | apply bA)); refine blk_far ?_ NB237_246.out _; (with_reducible repeat (first | apply bN | apply bD | apply bA)); exact BK237.out⟩
                  have n4_ : Aside0 ((w108.setCell ⟨gb246, 1, none⟩ (.int .i64 (rd y256 t259))).heap[gb246]? = some (.cells #[.int .i64 t242, .int .i64 (rd y256 t259), .string t244] 34 (0, 0))) := ⟨by (with_reducible repeat (first | apply bN | apply bD | apply bA)); refine blk_put (cs := #[.int .i64 t242, .int .i64 x247001_53, .string t244]) ?_ 1 _ rfl; (with_reducible repeat (first | apply bN | apply bD | apply bA)); exact BK246.out⟩
                  have n5_ : Aside0 (IsS145 w (w108.setCell ⟨gb246, 1, none⟩ (.int .i64 (rd y256 t259))) g226 t224 t260) := ⟨by repeat (first | (with_reducible first | exact HI226.out | apply IsS145.alloc | apply IsS145.drewN | apply IsS145.drew | apply IsS145.set_1 | refine IsS145.far ?_ NB226_222.out _ | refine IsS145.far ?_ NB226_223.out _ | refine IsS145.far ?_ NB226_237.out _ | refine IsS145.far ?_ NB226_246.out _) | exact HI226.out)⟩
                  have n6_ : Aside0 (Below w.heap.size w (w108.setCell ⟨gb246, 1, none⟩ (.int .i64 (rd y256 t259)))) := ⟨by repeat (first | (with_reducible first | exact HB.out | apply wA | apply wN | apply wD | refine wS ?_ (IsS145.ge HI226.out) | refine wS ?_ GE222.out | refine wS ?_ GE223.out | refine wS ?_ GE237.out | refine wS ?_ GE246.out) | exact HB.out)⟩
                  (try clear HO258)
                  (try clear BK222)
                  (try clear BK223)
                  (try clear BK237)
                  (try clear BK246)
                  (try clear HI226)
                  (try clear HB)
                  generalize (w108.setCell ⟨gb246, 1, none⟩ (.int .i64 (rd y256 t259))) = w115 at n0_ n1_ n2_ n3_ n4_ n5_ n6_ ⊢
                  have HO258 := n0_
                  have BK222 := n1_
                  have BK223 := n2_
                  have BK237 := n3_
                  have BK246 := n4_
                  have HI226 := n5_
                  have HB := n6_
                  clear n0_ n1_ n2_ n3_ n4_ n5_ n6_
                  have n0_ := mk0 (Kd.R_drew HO258.out)
                  have n1_ := mk0 (bD BK222.out)
                  have n2_ := mk0 (bD BK223.out)
                  have n3_ := mk0 (bD BK237.out)
                  have n4_ := mk0 (bD BK246.out)
                  have n5_ := mk0 (IsS145.drew HI226.out)
                  have n6_ := mk0 (wD HB.out)
                  clear HO258
                  clear BK222
                  clear BK223
                  clear BK237
                  clear BK246
                  clear HI226
                  clear HB
                  have HO258 := n0_
                  have BK222 := n1_
                  have BK223 := n2_
                  have BK237 := n3_
                  have BK246 := n4_
                  have HI226 := n5_
                  have HB := n6_
                  clear n0_ n1_ n2_ n3_ n4_ n5_ n6_
                  refine start_ (n := 7) (S := fun w' => w'.cell? ⟨gb246, 0, none⟩ = some (.int .i64 t242) ∧ w'.cell? ⟨gb246, 1, none⟩ = some (.int .i64 (rd y256 t259)) ∧ w'.cell? ⟨gb246, 2, none⟩ = some (.string t244)) (ds := []) #[false, false, false, false, false, false, false] (by kernel_rfl) rfl rfl ⟨(bC BK246.out 0).trans rfl, (bC BK246.out 1).trans rfl, (bC BK246.out 2).trans rfl⟩ (fun hHeld => ?_)
                  generalize w115.drew = w116 at HO258 BK222 BK223 BK237 BK246 HI226 HB hHeld ⊢
                  refine pure_ (i := 0) (N := some 85) (v := ?_) (a' := ?_) #[true, false, false, false, false, false, false] rfl rfl (by kernel_rfl) (fun _ _ _ h => h) (Or.inl ⟨by rfl, ?_⟩) ?_ ?_
                  rotate_left
                  · intro w'
                    go_simp
                    with_reducible rfl
                  rotate_left
                  · simp only [Act.put, List.setIfInBounds_toArray, List.set_cons_zero, List.set_cons_succ, i64_w, i32_w]
                    rfl
                  refine pure_ (i := 2) (N := some 87) (v := ?_) (a' := ?_) #[true, false, true, false, false, false, false] rfl rfl (by kernel_rfl) (fun _ _ _ h => h) (Or.inl ⟨by rfl, ?_⟩) ?_ ?_
                  rotate_left
                  · intro w'
                    go_simp
                    with_reducible rfl
                  rotate_left
                  · simp only [Act.put, List.setIfInBounds_toArray, List.set_cons_zero, List.set_cons_succ, i64_w, i32_w]
                    rfl
                  refine take_ (i := 1) (N := some 86) (v := ?_) (a' := ?_) #[true, true, true, false, false, false, false] rfl rfl (by kernel_rfl) (fun _ _ _ h => h) (Or.inl ⟨by rfl, ?_⟩) hHeld ?_ ?_
                  rotate_left
                  · rintro w' ⟨s0, s1, s2⟩
                    go_simp
                    with_reducible rfl
                  rotate_left
                  · simp only [Act.put, List.setIfInBounds_toArray, List.set_cons_zero, List.set_cons_succ, i64_w, i32_w]
                    rfl
                  refine one_ (i := 3) (N := some 88) #[true, true, true, true, false, false, false] rfl rfl (by kernel_rfl) (by decide) (fun K hK => ?_)
                  refine goes_ Try.func91 (by kernel_rfl) rfl #[.int .i64 x7_18] (by rfl) rfl rfl (by (try simp only [List.map_toArray, List.map_cons, List.map_nil]); first | done | rfl | (simp only [List.length_drop, List.length_take]; rfl)) ?_
                  with_reducible refine (spec_l1Max.calls kj64 x7_18 t262 _ A100.out).mono ?_
                  rintro e w' ⟨rfl, ⟨nd, rfl⟩⟩
                  refine ⟨_, rfl, ?_⟩
                  refine hK.out _ _ ⟨(bC BK246.out 0).trans rfl, (bC BK246.out 1).trans rfl, (bC BK246.out 2).trans rfl⟩ (fun hHeld => ?_)
                  clear hK K
                  refine norm_ (a' := ?_) ?_ ?_
                  rotate_left
                  · show Act.put _ (some 88) _ = _
                    simp only [Act.put, List.setIfInBounds_toArray, List.set_cons_zero, List.set_cons_succ, i64_w, i32_w]
                    rfl
                  refine pure_ (i := 4) (N := some 89) (v := ?_) (a' := ?_) #[true, true, true, true, true, false, false] rfl rfl (by kernel_rfl) (fun _ _ _ h => h) (Or.inl ⟨by rfl, ?_⟩) ?_ ?_
                  rotate_left
                  · intro w'
                    go_simp
                    with_reducible rfl
                  rotate_left
                  · simp only [Act.put, List.setIfInBounds_toArray, List.set_cons_zero, List.set_cons_succ, i64_w, i32_w]
                    rfl
                  refine pure_ (i := 5) (N := some 90) (v := ?_) (a' := ?_) #[true, true, true, true, true, true, false] rfl rfl (by kernel_rfl) (fun _ _ _ h => h) (Or.inl ⟨by rfl, ?_⟩) ?_ ?_
                  rotate_left
                  · intro w'
                    go_simp
                    with_reducible rfl
                  rotate_left
                  · simp only [Act.put, List.setIfInBounds_toArray, List.set_cons_zero, List.set_cons_succ, i64_w, i32_w]
                    rfl
                  refine pure_ (i := 6) (N := some 91) (v := ?_) (a' := ?_) #[true, true, true, true, true, true, true] rfl rfl (by kernel_rfl) (fun _ _ _ h => h) (Or.inl ⟨by rfl, ?_⟩) ?_ ?_
                  rotate_left
                  · intro w'
                    go_simp
                    with_reducible rfl
                  rotate_left
                  · simp only [Act.put, List.setIfInBounds_toArray, List.set_cons_zero, List.set_cons_succ, i64_w, i32_w]
                    rfl
                  refine done_ (by kernel_rfl) ?_
                  have hcz117_0 : w116.cell? ⟨gb246, 0, none⟩ = some (.int .i64 t242) := (bC BK246.out 0).trans rfl
                  have hcz117_1 : w116.cell? ⟨gb246, 1, none⟩ = some (.int .i64 (rd y256 t259)) := (bC BK246.out 1).trans rfl
                  have hcz117_2 : w116.cell? ⟨gb246, 2, none⟩ = some (.string t244) := (bC BK246.out 2).trans rfl
                  have hfz117_0 := bF BK246.out 0
                  have hfz117_1 := bF BK246.out 1
                  have hfz117_2 := bF BK246.out 2
                  try go_wp2_with (first | ((with_reducible refine gate_dst (N := 93) rfl ?_); refine Kd.R_lit (Kd.int .i64) _ 2 ?hg (N := 93) ?hd (xs := ([1, 5, 100] : List Int)) (inner := [.int .i64 1, .int .i64 5, .int .i64 100]) (ok := fun _ => True) (okp := fun _ => True) ?hr ?hp (fun _ hk => hk) trivial (Below.refl _ _) (Nat.le_refl _) (by simp) ?_; (case hd => rfl); (case hg => rfl); (case hr => first | (go_simp; done) | (go_simp; rfl)); (case hp => exact (Reps.one (show Kd.M (Kd.int .i64) _ _ _ 1 [.int .i64 1] from rfl) (Reps.one (show Kd.M (Kd.int .i64) _ _ _ 5 [.int .i64 5] from rfl) (Reps.one (show Kd.M (Kd.int .i64) _ _ _ 100 [.int .i64 100] from rfl) (Reps.none _ _))))); intro v264 w118 ho119 hb hg_ hnew_; clear hg_ hnew_; (first | rw [← Ny263.out] at ho119 | (simp only [Int.reduceToNat] at ho119; rw [← Ny263.out] at ho119)); have n0_ := mk0 (Kd.R_elder' (by (with_reducible repeat (first | apply Kd.R_alloc | apply Kd.R_drewN | apply Kd.R_drew)); exact (Kd.R_mono (Kd.R_far (p := ⟨gb246, 1, none⟩) (Kd.R_types HO258.out BK246.out (by decide)) (fun _ hk => hk.2) (.int .i64 8)) (fun _ h_ => h_.1))) (Kd.R_base ho119) hb); have n1_ := mk0 (Kd.R_lower (Kd.R_new' ho119 (Kd.R_lt (by (with_reducible repeat (first | apply Kd.R_alloc | apply Kd.R_drewN | apply Kd.R_drew)); exact (Kd.R_mono (Kd.R_far (p := ⟨gb246, 1, none⟩) (Kd.R_types HO258.out BK246.out (by decide)) (fun _ hk => hk.2) (.int .i64 8)) (fun _ h_ => h_.1))))) (below_size (by repeat (first | (with_reducible first | exact HB.out | apply wA | apply wN | apply wD | refine wS ?_ (IsS145.ge HI226.out) | refine wS ?_ GE222.out | refine wS ?_ GE223.out | refine wS ?_ GE237.out | refine wS ?_ GE246.out) | exact HB.out)))); have n2_ := mk0 (bB (g := gb222) (o := .cells #[.int .i64 0, .int .i64 0, .string (⟨#[]⟩ : ByteArray)] 34 (0, 0)) (by (with_reducible repeat (first | apply bN | apply bD | apply bA)); refine blk_far ?_ NB222_246.out _; (with_reducible repeat (first | apply bN | apply bD | apply bA)); exact BK222.out) hb); have n3_ := mk0 (bB (g := gb223) (o := .cells #[.int .i64 0, .int .i64 0, .string (⟨#[]⟩ : ByteArray)] 34 (0, 0)) (by (with_reducible repeat (first | apply bN | apply bD | apply bA)); refine blk_far ?_ NB223_246.out _; (with_reducible repeat (first | apply bN | apply bD | apply bA)); exact BK223.out) hb); have n4_ := mk0 (bB (g := gb237) (o := .cells #[.int .i64 t233, .int .i64 t234, .string t235] 34 (0, 0)) (by (with_reducible repeat (first | apply bN | apply bD | apply bA)); refine blk_far ?_ NB237_246.out _; (with_reducible repeat (first | apply bN | apply bD | apply bA)); exact BK237.out) hb); have n5_ := mk0 (bB (g := gb246) (o := .cells #[.int .i64 t242, .int .i64 8, .string t244] 34 (0, 0)) (by (with_reducible repeat (first | apply bN | apply bD | apply bA)); refine blk_put (cs := #[.int .i64 t242, .int .i64 (rd y256 t259), .string t244]) ?_ 1 _ rfl; (with_reducible repeat (first | apply bN | apply bD | apply bA)); exact BK246.out) hb); have n6_ := mk0 (IsS145.below (show IsS145 w _ g226 t224 t260 from by repeat (first | (with_reducible first | exact HI226.out | apply IsS145.alloc | apply IsS145.drewN | apply IsS145.drew | apply IsS145.set_1 | refine IsS145.far ?_ NB226_222.out _ | refine IsS145.far ?_ NB226_223.out _ | refine IsS145.far ?_ NB226_237.out _ | refine IsS145.far ?_ NB226_246.out _) | exact HI226.out)) hb); have n7_ := mk0 (below_step (by repeat (first | (with_reducible first | exact HB.out | apply wA | apply wN | apply wD | refine wS ?_ (IsS145.ge HI226.out) | refine wS ?_ GE222.out | refine wS ?_ GE223.out | refine wS ?_ GE237.out | refine wS ?_ GE246.out) | exact HB.out)) hb); clear HO258; clear BK222; clear BK223; clear BK237; clear BK246; clear HI226; clear HB; have HO258 := n0_; have HO265 := n1_; have BK222 := n2_; have BK223 := n3_; have BK237 := n4_; have BK246 := n5_; have HI226 := n6_; have HB := n7_; clear n0_ n1_ n2_ n3_ n4_ n5_ n6_ n7_; clear hb ho119) | ((with_reducible refine gate_callee (f := 89) rfl ?_); refine goesL_ (some 95) rfl rfl Try.func89 (by kernel_rfl) rfl #[.pointer (some ⟨g226, 0, none⟩), .int .i64 3] rfl (by (try simp only [List.map_toArray, List.map_cons, List.map_nil]); first | done | rfl | (simp only [List.length_drop, List.length_take]; rfl)) ?_; (with_reducible refine (spec_l1Rd_pick.calls kj64 g226 t224 t260 3 t266 t267 w _ ?side1 ?side2 A102.out).mono ?_); (case side1 => repeat (first | (with_reducible first | exact HI226.out | apply IsS145.alloc | apply IsS145.drewN | apply IsS145.drew | apply IsS145.set_1 | refine IsS145.far ?_ NB226_222.out _ | refine IsS145.far ?_ NB226_223.out _ | refine IsS145.far ?_ NB226_237.out _ | refine IsS145.far ?_ NB226_246.out _) | exact HI226.out)); (case side2 => repeat (first | (with_reducible first | exact HB.out | apply wA | apply wN | apply wD | refine wS ?_ (IsS145.ge HI226.out) | refine wS ?_ GE222.out | refine wS ?_ GE223.out | refine wS ?_ GE237.out | refine wS ?_ GE246.out) | exact HB.out)); rintro e w120 ⟨rfl, hi, hb, hk⟩; refine ⟨_, rfl, ?_⟩; have n0_ := mk0 (KeepBut.blk hk (g' := gb222) (o := .cells #[.int .i64 0, .int .i64 0, .string (⟨#[]⟩ : ByteArray)] 34 (0, 0)) (by (with_reducible repeat (first | apply bN | apply bD | apply bA)); exact BK222.out) NB222_226.out (by simp)); have n1_ := mk0 (KeepBut.blk hk (g' := gb223) (o := .cells #[.int .i64 0, .int .i64 0, .string (⟨#[]⟩ : ByteArray)] 34 (0, 0)) (by (with_reducible repeat (first | apply bN | apply bD | apply bA)); exact BK223.out) NB223_226.out (by simp)); have n2_ := mk0 (KeepBut.blk hk (g' := gb237) (o := .cells #[.int .i64 t233, .int .i64 t234, .string t235] 34 (0, 0)) (by (with_reducible repeat (first | apply bN | apply bD | apply bA)); exact BK237.out) NB237_226.out (by simp)); have n3_ := mk0 (KeepBut.blk hk (g' := gb246) (o := .cells #[.int .i64 t242, .int .i64 8, .string t244] 34 (0, 0)) (by (with_reducible repeat (first | apply bN | apply bD | apply bA)); exact BK246.out) NB246_226.out (by simp)); have n4_ := mk0 (Kd.R_mono (Kd.R_keep (IsS145.apart (show IsS145 w _ g226 t224 t260 from by repeat (first | (with_reducible first | exact HI226.out | apply IsS145.alloc | apply IsS145.drewN | apply IsS145.drew | apply IsS145.set_1 | refine IsS145.far ?_ NB226_222.out _ | refine IsS145.far ?_ NB226_223.out _ | refine IsS145.far ?_ NB226_237.out _ | refine IsS145.far ?_ NB226_246.out _) | exact HI226.out)) (by (with_reducible repeat (first | apply Kd.R_alloc | apply Kd.R_drewN | apply Kd.R_drew)); exact HO258.out) (by decide)) hk (fun _ h => h.2)) (fun _ h => h.1)); have n5_ := mk0 (Kd.R_mono (Kd.R_keep (IsS145.apart (show IsS145 w _ g226 t224 t260 from by repeat (first | (with_reducible first | exact HI226.out | apply IsS145.alloc | apply IsS145.drewN | apply IsS145.drew | apply IsS145.set_1 | refine IsS145.far ?_ NB226_222.out _ | refine IsS145.far ?_ NB226_223.out _ | refine IsS145.far ?_ NB226_237.out _ | refine IsS145.far ?_ NB226_246.out _) | exact HI226.out)) (by (with_reducible repeat (first | apply Kd.R_alloc | apply Kd.R_drewN | apply Kd.R_drew)); exact HO265.out) (by decide)) hk (fun _ h => h.2)) (fun _ h => h.1)); have n6_ := mk0 (hb); have n7_ := mk0 (hi); clear BK222; clear BK223; clear BK237; clear BK246; clear HO258; clear HO265; clear HB; clear HI226; have BK222 := n0_; have BK223 := n1_; have BK237 := n2_; have BK246 := n3_; have HO258 := n4_; have HO265 := n5_; have HB := n6_; have HI226 := n7_; clear n0_ n1_ n2_ n3_ n4_ n5_ n6_ n7_; (try clear hb); (try clear hb2); (try clear hk); (try clear hi); obtain ⟨Ao121, co121, eo121⟩ := Kd.R_slice HO265.out; subst eo121; have p268 : 0 ≤ (t266 : Int) := of_decide_eq_true (by first | (with_reducible assumption) | assumption); have q268 : t266 < (y263.length : Int) := of_decide_eq_true (by first | (with_reducible assumption) | assumption); obtain ⟨ad268, e268, hx268_0⟩ := Kd.at_int (Kd.R_reads' HO265.out).2.2 t266 p268 q268; cases e268; replace p268 := eq_true p268; replace q268 := eq_true q268; have hnb122 := NB237_222.out; have hnc122 := NB222_237.out; have hnb123 := NB237_223.out; have hnc123 := NB223_237.out; have hnb124 := NB237_226.out; have hnc124 := NB226_237.out; have hcz125_0 : w120.cell? ⟨gb237, 0, none⟩ = some (.int .i64 t233) := (bC BK237.out 0).trans rfl; have hcz125_1 : w120.cell? ⟨gb237, 1, none⟩ = some (.int .i64 t234) := (bC BK237.out 1).trans rfl; have hcz125_2 : w120.cell? ⟨gb237, 2, none⟩ = some (.string t235) := (bC BK237.out 2).trans rfl; have hfz125_0 := bF BK237.out 0; have hfz125_1 := bF BK237.out 1; have hfz125_2 := bF BK237.out 2))
                  go_meet
                  case rel => exact ⟨_, (t267), (wrap64 (-(rd y263 t266))), (8), H', ⟨by have := HJ4.out; have := HJ18.out; have := HJ30.out; have := HJ53.out; have := HJ64.out; first | omega | exact Nat.le_refl _⟩, ⟨by (with_reducible repeat (first | apply bN | apply bD | apply bA)); refine blk_far ?_ NB222_237.out _; (with_reducible repeat (first | apply bN | apply bD | apply bA)); refine blk_far ?_ NB222_237.out _; (with_reducible repeat (first | apply bN | apply bD | apply bA)); exact BK222.out⟩, ⟨by (with_reducible repeat (first | apply bN | apply bD | apply bA)); refine blk_far ?_ NB223_237.out _; (with_reducible repeat (first | apply bN | apply bD | apply bA)); refine blk_far ?_ NB223_237.out _; (with_reducible repeat (first | apply bN | apply bD | apply bA)); exact BK223.out⟩, ⟨by (with_reducible repeat (first | apply bN | apply bD | apply bA)); refine blk_put (cs := #[.int .i64 t233, .int .i64 (rd y263 t266), .string t235]) ?_ 1 _ rfl; (with_reducible repeat (first | apply bN | apply bD | apply bA)); refine blk_put (cs := #[.int .i64 t233, .int .i64 t234, .string t235]) ?_ 1 _ rfl; (with_reducible repeat (first | apply bN | apply bD | apply bA)); exact BK237.out⟩, ⟨by (with_reducible repeat (first | apply bN | apply bD | apply bA)); refine blk_far ?_ NB246_237.out _; (with_reducible repeat (first | apply bN | apply bD | apply bA)); refine blk_far ?_ NB246_237.out _; (with_reducible repeat (first | apply bN | apply bD | apply bA)); exact BK246.out⟩, ⟨by repeat (first | (with_reducible first | exact HI226.out | apply IsS145.alloc | apply IsS145.drewN | apply IsS145.drew | apply IsS145.set_1 | refine IsS145.far ?_ NB226_222.out _ | refine IsS145.far ?_ NB226_223.out _ | refine IsS145.far ?_ NB226_237.out _ | refine IsS145.far ?_ NB226_246.out _) | exact HI226.out)⟩, ⟨by repeat (first | (with_reducible first | exact HB.out | apply wA | apply wN | apply wD | refine wS ?_ (IsS145.ge HI226.out) | refine wS ?_ GE222.out | refine wS ?_ GE223.out | refine wS ?_ GE237.out | refine wS ?_ GE246.out) | exact HB.out)⟩⟩
                rw [if_neg c105] at H
                have c105b0 : decide (7 ≤ x7_18) = false := decide_eq_false c105
                clear c105
                have H' := mk0 H
                clear H
                try go_wp2_with (first | ((with_reducible refine gate_dst (N := 79) rfl ?_); refine Kd.R_lit (Kd.int .i64) _ 2 ?hg (N := 79) ?hd (xs := ([8, 16, 32, 64, 7, 15, 31, 63] : List Int)) (inner := [.int .i64 8, .int .i64 16, .int .i64 32, .int .i64 64, .int .i64 7, .int .i64 15, .int .i64 31, .int .i64 63]) (ok := fun _ => True) (okp := fun _ => True) ?hr ?hp (fun _ hk => hk) trivial (Below.refl _ _) (Nat.le_refl _) (by simp) ?_; (case hd => rfl); (case hg => rfl); (case hr => first | (go_simp; done) | (go_simp; rfl)); (case hp => exact (Reps.one (show Kd.M (Kd.int .i64) _ _ _ 8 [.int .i64 8] from rfl) (Reps.one (show Kd.M (Kd.int .i64) _ _ _ 16 [.int .i64 16] from rfl) (Reps.one (show Kd.M (Kd.int .i64) _ _ _ 32 [.int .i64 32] from rfl) (Reps.one (show Kd.M (Kd.int .i64) _ _ _ 64 [.int .i64 64] from rfl) (Reps.one (show Kd.M (Kd.int .i64) _ _ _ 7 [.int .i64 7] from rfl) (Reps.one (show Kd.M (Kd.int .i64) _ _ _ 15 [.int .i64 15] from rfl) (Reps.one (show Kd.M (Kd.int .i64) _ _ _ 31 [.int .i64 31] from rfl) (Reps.one (show Kd.M (Kd.int .i64) _ _ _ 63 [.int .i64 63] from rfl) (Reps.none _ _)))))))))); intro v257 w126 ho127 hb hg_ hnew_; clear hg_ hnew_; (first | rw [← Ny256.out] at ho127 | (simp only [Int.reduceToNat] at ho127; rw [← Ny256.out] at ho127)); have n0_ := mk0 (Kd.R_lower ho127 (below_size (by repeat (first | (with_reducible first | exact HB.out | apply wA | apply wN | apply wD | refine wS ?_ (IsS145.ge HI226.out) | refine wS ?_ GE222.out | refine wS ?_ GE223.out | refine wS ?_ GE237.out | refine wS ?_ GE246.out) | exact HB.out)))); have n1_ := mk0 (bB (g := gb222) (o := .cells #[.int .i64 0, .int .i64 0, .string (⟨#[]⟩ : ByteArray)] 34 (0, 0)) (by (with_reducible repeat (first | apply bN | apply bD | apply bA)); exact BK222.out) hb); have n2_ := mk0 (bB (g := gb223) (o := .cells #[.int .i64 0, .int .i64 0, .string (⟨#[]⟩ : ByteArray)] 34 (0, 0)) (by (with_reducible repeat (first | apply bN | apply bD | apply bA)); exact BK223.out) hb); have n3_ := mk0 (bB (g := gb237) (o := .cells #[.int .i64 t233, .int .i64 t234, .string t235] 34 (0, 0)) (by (with_reducible repeat (first | apply bN | apply bD | apply bA)); exact BK237.out) hb); have n4_ := mk0 (bB (g := gb246) (o := .cells #[.int .i64 t242, .int .i64 x247001_53, .string t244] 34 (0, 0)) (by (with_reducible repeat (first | apply bN | apply bD | apply bA)); exact BK246.out) hb); have n5_ := mk0 (IsS145.below (by repeat (first | (with_reducible first | exact HI226.out | apply IsS145.alloc | apply IsS145.drewN | apply IsS145.drew | apply IsS145.set_1 | refine IsS145.far ?_ NB226_222.out _ | refine IsS145.far ?_ NB226_223.out _ | refine IsS145.far ?_ NB226_237.out _ | refine IsS145.far ?_ NB226_246.out _) | exact HI226.out)) hb); have n6_ := mk0 (below_step (by repeat (first | (with_reducible first | exact HB.out | apply wA | apply wN | apply wD | refine wS ?_ (IsS145.ge HI226.out) | refine wS ?_ GE222.out | refine wS ?_ GE223.out | refine wS ?_ GE237.out | refine wS ?_ GE246.out) | exact HB.out)) hb); clear BK222; clear BK223; clear BK237; clear BK246; clear HI226; clear HB; have HO258 := n0_; have BK222 := n1_; have BK223 := n2_; have BK237 := n3_; have BK246 := n4_; have HI226 := n5_; have HB := n6_; clear n0_ n1_ n2_ n3_ n4_ n5_ n6_; clear hb ho127) | ((with_reducible refine gate_callee (f := 89) rfl ?_); refine goesL_ (some 81) rfl rfl Try.func89 (by kernel_rfl) rfl #[.pointer (some ⟨g226, 0, none⟩), .int .i64 8] rfl (by (try simp only [List.map_toArray, List.map_cons, List.map_nil]); first | done | rfl | (simp only [List.length_drop, List.length_take]; rfl)) ?_; (with_reducible refine (spec_l1Rd_pick.calls kj64 g226 t224 x227001_64 8 t259 t260 w _ ?side1 ?side2 A97.out).mono ?_); (case side1 => repeat (first | (with_reducible first | exact HI226.out | apply IsS145.alloc | apply IsS145.drewN | apply IsS145.drew | apply IsS145.set_1 | refine IsS145.far ?_ NB226_222.out _ | refine IsS145.far ?_ NB226_223.out _ | refine IsS145.far ?_ NB226_237.out _ | refine IsS145.far ?_ NB226_246.out _) | exact HI226.out)); (case side2 => repeat (first | (with_reducible first | exact HB.out | apply wA | apply wN | apply wD | refine wS ?_ (IsS145.ge HI226.out) | refine wS ?_ GE222.out | refine wS ?_ GE223.out | refine wS ?_ GE237.out | refine wS ?_ GE246.out) | exact HB.out)); rintro e w128 ⟨rfl, hi, hb, hk⟩; refine ⟨_, rfl, ?_⟩; have n0_ := mk0 (KeepBut.blk hk (g' := gb222) (o := .cells #[.int .i64 0, .int .i64 0, .string (⟨#[]⟩ : ByteArray)] 34 (0, 0)) (by (with_reducible repeat (first | apply bN | apply bD | apply bA)); exact BK222.out) NB222_226.out (by simp)); have n1_ := mk0 (KeepBut.blk hk (g' := gb223) (o := .cells #[.int .i64 0, .int .i64 0, .string (⟨#[]⟩ : ByteArray)] 34 (0, 0)) (by (with_reducible repeat (first | apply bN | apply bD | apply bA)); exact BK223.out) NB223_226.out (by simp)); have n2_ := mk0 (KeepBut.blk hk (g' := gb237) (o := .cells #[.int .i64 t233, .int .i64 t234, .string t235] 34 (0, 0)) (by (with_reducible repeat (first | apply bN | apply bD | apply bA)); exact BK237.out) NB237_226.out (by simp)); have n3_ := mk0 (KeepBut.blk hk (g' := gb246) (o := .cells #[.int .i64 t242, .int .i64 x247001_53, .string t244] 34 (0, 0)) (by (with_reducible repeat (first | apply bN | apply bD | apply bA)); exact BK246.out) NB246_226.out (by simp)); have n4_ := mk0 (Kd.R_mono (Kd.R_keep (IsS145.apart (show IsS145 w _ g226 t224 x227001_64 from by repeat (first | (with_reducible first | exact HI226.out | apply IsS145.alloc | apply IsS145.drewN | apply IsS145.drew | apply IsS145.set_1 | refine IsS145.far ?_ NB226_222.out _ | refine IsS145.far ?_ NB226_223.out _ | refine IsS145.far ?_ NB226_237.out _ | refine IsS145.far ?_ NB226_246.out _) | exact HI226.out)) (by (with_reducible repeat (first | apply Kd.R_alloc | apply Kd.R_drewN | apply Kd.R_drew)); exact HO258.out) (by decide)) hk (fun _ h => h.2)) (fun _ h => h.1)); have n5_ := mk0 (hb); have n6_ := mk0 (hi); clear BK222; clear BK223; clear BK237; clear BK246; clear HO258; clear HB; clear HI226; have BK222 := n0_; have BK223 := n1_; have BK237 := n2_; have BK246 := n3_; have HO258 := n4_; have HB := n5_; have HI226 := n6_; clear n0_ n1_ n2_ n3_ n4_ n5_ n6_; (try clear hb); (try clear hb2); (try clear hk); (try clear hi); obtain ⟨Ao129, co129, eo129⟩ := Kd.R_slice HO258.out; subst eo129; have p261 : 0 ≤ (t259 : Int) := of_decide_eq_true (by first | (with_reducible assumption) | assumption); have q261 : t259 < (y256.length : Int) := of_decide_eq_true (by first | (with_reducible assumption) | assumption); obtain ⟨ad261, e261, hx261_0⟩ := Kd.at_int (Kd.R_reads' HO258.out).2.2 t259 p261 q261; cases e261; replace p261 := eq_true p261; replace q261 := eq_true q261; have hnb130 := NB246_222.out; have hnc130 := NB222_246.out; have hnb131 := NB246_223.out; have hnc131 := NB223_246.out; have hnb132 := NB246_237.out; have hnc132 := NB237_246.out; have hnb133 := NB246_226.out; have hnc133 := NB226_246.out; have hcz134_0 : w128.cell? ⟨gb246, 0, none⟩ = some (.int .i64 t242) := (bC BK246.out 0).trans rfl; have hcz134_1 : w128.cell? ⟨gb246, 1, none⟩ = some (.int .i64 x247001_53) := (bC BK246.out 1).trans rfl; have hcz134_2 : w128.cell? ⟨gb246, 2, none⟩ = some (.string t244) := (bC BK246.out 2).trans rfl; have hfz134_0 := bF BK246.out 0; have hfz134_1 := bF BK246.out 1; have hfz134_2 := bF BK246.out 2))
                have n0_ : Aside0 (Kd.R (Kd.int .i64) 2 (w128.setCell ⟨gb246, 1, none⟩ (.int .i64 (rd y256 t259))) w.heap.size (fun _ => True) (.slice (some ad261) y256.length co129) y256) := ⟨by (with_reducible repeat (first | apply Kd.R_alloc | apply Kd.R_drewN | apply Kd.R_drew)); exact Kd.R_mono (Kd.R_far (p := ⟨gb246, 1, none⟩) (Kd.R_types HO258.out BK246.out (by decide)) (fun _ hk => hk.2) (.int .i64 (rd y256 t259))) (fun _ hk => trivial)⟩
                have n1_ : Aside0 ((w128.setCell ⟨gb246, 1, none⟩ (.int .i64 (rd y256 t259))).heap[gb222]? = some (.cells #[.int .i64 0, .int .i64 0, .string (⟨#[]⟩ : ByteArray)] 34 (0, 0))) := ⟨by (with_reducible repeat (first | apply bN | apply bD | apply bA)); refine blk_far ?_ NB222_246.out _; (with_reducible repeat (first | apply bN | apply bD | apply bA)); exact BK222.out⟩
                have n2_ : Aside0 ((w128.setCell ⟨gb246, 1, none⟩ (.int .i64 (rd y256 t259))).heap[gb223]? = some (.cells #[.int .i64 0, .int .i64 0, .string (⟨#[]⟩ : ByteArray)] 34 (0, 0))) := ⟨by (with_reducible repeat (first | apply bN | apply bD | apply bA)); refine blk_far ?_ NB223_246.out _; (with_reducible repeat (first | apply bN | apply bD | apply bA)); exact BK223.out⟩
                have n3_ : Aside0 ((w128.setCell ⟨gb246, 1, none⟩ (.int .i64 (rd y256 t259))).heap[gb237]? = some (.cells #[.int .i64 t233, .int .i64 t234, .string t235] 34 (0, 0))) := ⟨by (with_reducible repeat (first | apply bN | apply bD | apply bA)); refine blk_far ?_ NB237_246.out _; (with_reducible repeat (first | apply bN | apply bD | apply bA)); exact BK237.out⟩
                have n4_ : Aside0 ((w128.setCell ⟨gb246, 1, none⟩ (.int .i64 (rd y256 t259))).heap[gb246]? = some (.cells #[.int .i64 t242, .int .i64 (rd y256 t259), .string t244] 34 (0, 0))) := ⟨by (with_reducible repeat (first | apply bN | apply bD | apply bA)); refine blk_put (cs := #[.int .i64 t242, .int .i64 x247001_53, .string t244]) ?_ 1 _ rfl; (with_reducible repeat (first | apply bN | apply bD | apply bA)); exact BK246.out⟩
                have n5_ : Aside0 (IsS145 w (w128.setCell ⟨gb246, 1, none⟩ (.int .i64 (rd y256 t259))) g226 t224 t260) := ⟨by repeat (first | (with_reducible first | exact HI226.out | apply IsS145.alloc | apply IsS145.drewN | apply IsS145.drew | apply IsS145.set_1 | refine IsS145.far ?_ NB226_222.out _ | refine IsS145.far ?_ NB226_223.out _ | refine IsS145.far ?_ NB226_237.out _ | refine IsS145.far ?_ NB226_246.out _) | exact HI226.out)⟩
                have n6_ : Aside0 (Below w.heap.size w (w128.setCell ⟨gb246, 1, none⟩ (.int .i64 (rd y256 t259)))) := ⟨by repeat (first | (with_reducible first | exact HB.out | apply wA | apply wN | apply wD | refine wS ?_ (IsS145.ge HI226.out) | refine wS ?_ GE222.out | refine wS ?_ GE223.out | refine wS ?_ GE237.out | refine wS ?_ GE246.out) | exact HB.out)⟩
                (try clear HO258)
                (try clear BK222)
                (try clear BK223)
                (try clear BK237)
                (try clear BK246)
                (try clear HI226)
                (try clear HB)
                generalize (w128.setCell ⟨gb246, 1, none⟩ (.int .i64 (rd y256 t259))) = w135 at n0_ n1_ n2_ n3_ n4_ n5_ n6_ ⊢
                have HO258 := n0_
                have BK222 := n1_
                have BK223 := n2_
                have BK237 := n3_
                have BK246 := n4_
                have HI226 := n5_
                have HB := n6_
                clear n0_ n1_ n2_ n3_ n4_ n5_ n6_
                have n0_ := mk0 (Kd.R_drew HO258.out)
                have n1_ := mk0 (bD BK222.out)
                have n2_ := mk0 (bD BK223.out)
                have n3_ := mk0 (bD BK237.out)
                have n4_ := mk0 (bD BK246.out)
                have n5_ := mk0 (IsS145.drew HI226.out)
                have n6_ := mk0 (wD HB.out)
                clear HO258
                clear BK222
                clear BK223
                clear BK237
                clear BK246
                clear HI226
                clear HB
                have HO258 := n0_
                have BK222 := n1_
                have BK223 := n2_
                have BK237 := n3_
                have BK246 := n4_
                have HI226 := n5_
                have HB := n6_
                clear n0_ n1_ n2_ n3_ n4_ n5_ n6_
                refine start_ (n := 7) (S := fun w' => w'.cell? ⟨gb246, 0, none⟩ = some (.int .i64 t242) ∧ w'.cell? ⟨gb246, 1, none⟩ = some (.int .i64 (rd y256 t259)) ∧ w'.cell? ⟨gb246, 2, none⟩ = some (.string t244)) (ds := []) #[false, false, false, false, false, false, false] (by kernel_rfl) rfl rfl ⟨(bC BK246.out 0).trans rfl, (bC BK246.out 1).trans rfl, (bC BK246.out 2).trans rfl⟩ (fun hHeld => ?_)
                generalize w135.drew = w136 at HO258 BK222 BK223 BK237 BK246 HI226 HB hHeld ⊢
                refine pure_ (i := 0) (N := some 85) (v := ?_) (a' := ?_) #[true, false, false, false, false, false, false] rfl rfl (by kernel_rfl) (fun _ _ _ h => h) (Or.inl ⟨by rfl, ?_⟩) ?_ ?_
                rotate_left
                · intro w'
                  go_simp
                  with_reducible rfl
                rotate_left
                · simp only [Act.put, List.setIfInBounds_toArray, List.set_cons_zero, List.set_cons_succ, i64_w, i32_w]
                  rfl
                refine pure_ (i := 2) (N := some 87) (v := ?_) (a' := ?_) #[true, false, true, false, false, false, false] rfl rfl (by kernel_rfl) (fun _ _ _ h => h) (Or.inl ⟨by rfl, ?_⟩) ?_ ?_
                rotate_left
                · intro w'
                  go_simp
                  with_reducible rfl
                rotate_left
                · simp only [Act.put, List.setIfInBounds_toArray, List.set_cons_zero, List.set_cons_succ, i64_w, i32_w]
                  rfl
                refine take_ (i := 1) (N := some 86) (v := ?_) (a' := ?_) #[true, true, true, false, false, false, false] rfl rfl (by kernel_rfl) (fun _ _ _ h => h) (Or.inl ⟨by rfl, ?_⟩) hHeld ?_ ?_
                rotate_left
                · rintro w' ⟨s0, s1, s2⟩
                  go_simp
                  with_reducible rfl
                rotate_left
                · simp only [Act.put, List.setIfInBounds_toArray, List.set_cons_zero, List.set_cons_succ, i64_w, i32_w]
                  rfl
                refine one_ (i := 3) (N := some 88) #[true, true, true, true, false, false, false] rfl rfl (by kernel_rfl) (by decide) (fun K hK => ?_)
                refine goes_ Try.func91 (by kernel_rfl) rfl #[.int .i64 x7_18] (by rfl) rfl rfl (by (try simp only [List.map_toArray, List.map_cons, List.map_nil]); first | done | rfl | (simp only [List.length_drop, List.length_take]; rfl)) ?_
                with_reducible refine (spec_l1Max.calls kj64 x7_18 t262 _ A100.out).mono ?_
                rintro e w' ⟨rfl, ⟨nd, rfl⟩⟩
                refine ⟨_, rfl, ?_⟩
                refine hK.out _ _ ⟨(bC BK246.out 0).trans rfl, (bC BK246.out 1).trans rfl, (bC BK246.out 2).trans rfl⟩ (fun hHeld => ?_)
                clear hK K
                refine norm_ (a' := ?_) ?_ ?_
                rotate_left
                · show Act.put _ (some 88) _ = _
                  simp only [Act.put, List.setIfInBounds_toArray, List.set_cons_zero, List.set_cons_succ, i64_w, i32_w]
                  rfl
                refine pure_ (i := 4) (N := some 89) (v := ?_) (a' := ?_) #[true, true, true, true, true, false, false] rfl rfl (by kernel_rfl) (fun _ _ _ h => h) (Or.inl ⟨by rfl, ?_⟩) ?_ ?_
                rotate_left
                · intro w'
                  go_simp
                  with_reducible rfl
                rotate_left
                · simp only [Act.put, List.setIfInBounds_toArray, List.set_cons_zero, List.set_cons_succ, i64_w, i32_w]
                  rfl
                refine pure_ (i := 5) (N := some 90) (v := ?_) (a' := ?_) #[true, true, true, true, true, true, false] rfl rfl (by kernel_rfl) (fun _ _ _ h => h) (Or.inl ⟨by rfl, ?_⟩) ?_ ?_
                rotate_left
                · intro w'
                  go_simp
                  with_reducible rfl
                rotate_left
                · simp only [Act.put, List.setIfInBounds_toArray, List.set_cons_zero, List.set_cons_succ, i64_w, i32_w]
                  rfl
                refine pure_ (i := 6) (N := some 91) (v := ?_) (a' := ?_) #[true, true, true, true, true, true, true] rfl rfl (by kernel_rfl) (fun _ _ _ h => h) (Or.inl ⟨by rfl, ?_⟩) ?_ ?_
                rotate_left
                · intro w'
                  go_simp
                  with_reducible rfl
                rotate_left
                · simp only [Act.put, List.setIfInBounds_toArray, List.set_cons_zero, List.set_cons_succ, i64_w, i32_w]
                  rfl
                refine done_ (by kernel_rfl) ?_
                have hcz137_0 : w136.cell? ⟨gb246, 0, none⟩ = some (.int .i64 t242) := (bC BK246.out 0).trans rfl
                have hcz137_1 : w136.cell? ⟨gb246, 1, none⟩ = some (.int .i64 (rd y256 t259)) := (bC BK246.out 1).trans rfl
                have hcz137_2 : w136.cell? ⟨gb246, 2, none⟩ = some (.string t244) := (bC BK246.out 2).trans rfl
                have hfz137_0 := bF BK246.out 0
                have hfz137_1 := bF BK246.out 1
                have hfz137_2 := bF BK246.out 2
                try go_wp2_with (first | ((with_reducible refine gate_dst (N := 93) rfl ?_); refine Kd.R_lit (Kd.int .i64) _ 2 ?hg (N := 93) ?hd (xs := ([1, 5, 100] : List Int)) (inner := [.int .i64 1, .int .i64 5, .int .i64 100]) (ok := fun _ => True) (okp := fun _ => True) ?hr ?hp (fun _ hk => hk) trivial (Below.refl _ _) (Nat.le_refl _) (by simp) ?_; (case hd => rfl); (case hg => rfl); (case hr => first | (go_simp; done) | (go_simp; rfl)); (case hp => exact (Reps.one (show Kd.M (Kd.int .i64) _ _ _ 1 [.int .i64 1] from rfl) (Reps.one (show Kd.M (Kd.int .i64) _ _ _ 5 [.int .i64 5] from rfl) (Reps.one (show Kd.M (Kd.int .i64) _ _ _ 100 [.int .i64 100] from rfl) (Reps.none _ _))))); intro v264 w138 ho139 hb hg_ hnew_; clear hg_ hnew_; (first | rw [← Ny263.out] at ho139 | (simp only [Int.reduceToNat] at ho139; rw [← Ny263.out] at ho139)); have n0_ := mk0 (Kd.R_elder' (by (with_reducible repeat (first | apply Kd.R_alloc | apply Kd.R_drewN | apply Kd.R_drew)); exact (Kd.R_mono (Kd.R_far (p := ⟨gb246, 1, none⟩) (Kd.R_types HO258.out BK246.out (by decide)) (fun _ hk => hk.2) (.int .i64 8)) (fun _ h_ => h_.1))) (Kd.R_base ho139) hb); have n1_ := mk0 (Kd.R_lower (Kd.R_new' ho139 (Kd.R_lt (by (with_reducible repeat (first | apply Kd.R_alloc | apply Kd.R_drewN | apply Kd.R_drew)); exact (Kd.R_mono (Kd.R_far (p := ⟨gb246, 1, none⟩) (Kd.R_types HO258.out BK246.out (by decide)) (fun _ hk => hk.2) (.int .i64 8)) (fun _ h_ => h_.1))))) (below_size (by repeat (first | (with_reducible first | exact HB.out | apply wA | apply wN | apply wD | refine wS ?_ (IsS145.ge HI226.out) | refine wS ?_ GE222.out | refine wS ?_ GE223.out | refine wS ?_ GE237.out | refine wS ?_ GE246.out) | exact HB.out)))); have n2_ := mk0 (bB (g := gb222) (o := .cells #[.int .i64 0, .int .i64 0, .string (⟨#[]⟩ : ByteArray)] 34 (0, 0)) (by (with_reducible repeat (first | apply bN | apply bD | apply bA)); refine blk_far ?_ NB222_246.out _; (with_reducible repeat (first | apply bN | apply bD | apply bA)); exact BK222.out) hb); have n3_ := mk0 (bB (g := gb223) (o := .cells #[.int .i64 0, .int .i64 0, .string (⟨#[]⟩ : ByteArray)] 34 (0, 0)) (by (with_reducible repeat (first | apply bN | apply bD | apply bA)); refine blk_far ?_ NB223_246.out _; (with_reducible repeat (first | apply bN | apply bD | apply bA)); exact BK223.out) hb); have n4_ := mk0 (bB (g := gb237) (o := .cells #[.int .i64 t233, .int .i64 t234, .string t235] 34 (0, 0)) (by (with_reducible repeat (first | apply bN | apply bD | apply bA)); refine blk_far ?_ NB237_246.out _; (with_reducible repeat (first | apply bN | apply bD | apply bA)); exact BK237.out) hb); have n5_ := mk0 (bB (g := gb246) (o := .cells #[.int .i64 t242, .int .i64 8, .string t244] 34 (0, 0)) (by (with_reducible repeat (first | apply bN | apply bD | apply bA)); refine blk_put (cs := #[.int .i64 t242, .int .i64 (rd y256 t259), .string t244]) ?_ 1 _ rfl; (with_reducible repeat (first | apply bN | apply bD | apply bA)); exact BK246.out) hb); have n6_ := mk0 (IsS145.below (show IsS145 w _ g226 t224 t260 from by repeat (first | (with_reducible first | exact HI226.out | apply IsS145.alloc | apply IsS145.drewN | apply IsS145.drew | apply IsS145.set_1 | refine IsS145.far ?_ NB226_222.out _ | refine IsS145.far ?_ NB226_223.out _ | refine IsS145.far ?_ NB226_237.out _ | refine IsS145.far ?_ NB226_246.out _) | exact HI226.out)) hb); have n7_ := mk0 (below_step (by repeat (first | (with_reducible first | exact HB.out | apply wA | apply wN | apply wD | refine wS ?_ (IsS145.ge HI226.out) | refine wS ?_ GE222.out | refine wS ?_ GE223.out | refine wS ?_ GE237.out | refine wS ?_ GE246.out) | exact HB.out)) hb); clear HO258; clear BK222; clear BK223; clear BK237; clear BK246; clear HI226; clear HB; have HO258 := n0_; have HO265 := n1_; have BK222 := n2_; have BK223 := n3_; have BK237 := n4_; have BK246 := n5_; have HI226 := n6_; have HB := n7_; clear n0_ n1_ n2_ n3_ n4_ n5_ n6_ n7_; clear hb ho139) | ((with_reducible refine gate_callee (f := 89) rfl ?_); refine goesL_ (some 95) rfl rfl Try.func89 (by kernel_rfl) rfl #[.pointer (some ⟨g226, 0, none⟩), .int .i64 3] rfl (by (try simp only [List.map_toArray, List.map_cons, List.map_nil]); first | done | rfl | (simp only [List.length_drop, List.length_take]; rfl)) ?_; (with_reducible refine (spec_l1Rd_pick.calls kj64 g226 t224 t260 3 t266 t267 w _ ?side1 ?side2 A102.out).mono ?_); (case side1 => repeat (first | (with_reducible first | exact HI226.out | apply IsS145.alloc | apply IsS145.drewN | apply IsS145.drew | apply IsS145.set_1 | refine IsS145.far ?_ NB226_222.out _ | refine IsS145.far ?_ NB226_223.out _ | refine IsS145.far ?_ NB226_237.out _ | refine IsS145.far ?_ NB226_246.out _) | exact HI226.out)); (case side2 => repeat (first | (with_reducible first | exact HB.out | apply wA | apply wN | apply wD | refine wS ?_ (IsS145.ge HI226.out) | refine wS ?_ GE222.out | refine wS ?_ GE223.out | refine wS ?_ GE237.out | refine wS ?_ GE246.out) | exact HB.out)); rintro e w140 ⟨rfl, hi, hb, hk⟩; refine ⟨_, rfl, ?_⟩; have n0_ := mk0 (KeepBut.blk hk (g' := gb222) (o := .cells #[.int .i64 0, .int .i64 0, .string (⟨#[]⟩ : ByteArray)] 34 (0, 0)) (by (with_reducible repeat (first | apply bN | apply bD | apply bA)); exact BK222.out) NB222_226.out (by simp)); have n1_ := mk0 (KeepBut.blk hk (g' := gb223) (o := .cells #[.int .i64 0, .int .i64 0, .string (⟨#[]⟩ : ByteArray)] 34 (0, 0)) (by (with_reducible repeat (first | apply bN | apply bD | apply bA)); exact BK223.out) NB223_226.out (by simp)); have n2_ := mk0 (KeepBut.blk hk (g' := gb237) (o := .cells #[.int .i64 t233, .int .i64 t234, .string t235] 34 (0, 0)) (by (with_reducible repeat (first | apply bN | apply bD | apply bA)); exact BK237.out) NB237_226.out (by simp)); have n3_ := mk0 (KeepBut.blk hk (g' := gb246) (o := .cells #[.int .i64 t242, .int .i64 8, .string t244] 34 (0, 0)) (by (with_reducible repeat (first | apply bN | apply bD | apply bA)); exact BK246.out) NB246_226.out (by simp)); have n4_ := mk0 (Kd.R_mono (Kd.R_keep (IsS145.apart (show IsS145 w _ g226 t224 t260 from by repeat (first | (with_reducible first | exact HI226.out | apply IsS145.alloc | apply IsS145.drewN | apply IsS145.drew | apply IsS145.set_1 | refine IsS145.far ?_ NB226_222.out _ | refine IsS145.far ?_ NB226_223.out _ | refine IsS145.far ?_ NB226_237.out _ | refine IsS145.far ?_ NB226_246.out _) | exact HI226.out)) (by (with_reducible repeat (first | apply Kd.R_alloc | apply Kd.R_drewN | apply Kd.R_drew)); exact HO258.out) (by decide)) hk (fun _ h => h.2)) (fun _ h => h.1)); have n5_ := mk0 (Kd.R_mono (Kd.R_keep (IsS145.apart (show IsS145 w _ g226 t224 t260 from by repeat (first | (with_reducible first | exact HI226.out | apply IsS145.alloc | apply IsS145.drewN | apply IsS145.drew | apply IsS145.set_1 | refine IsS145.far ?_ NB226_222.out _ | refine IsS145.far ?_ NB226_223.out _ | refine IsS145.far ?_ NB226_237.out _ | refine IsS145.far ?_ NB226_246.out _) | exact HI226.out)) (by (with_reducible repeat (first | apply Kd.R_alloc | apply Kd.R_drewN | apply Kd.R_drew)); exact HO265.out) (by decide)) hk (fun _ h => h.2)) (fun _ h => h.1)); have n6_ := mk0 (hb); have n7_ := mk0 (hi); clear BK222; clear BK223; clear BK237; clear BK246; clear HO258; clear HO265; clear HB; clear HI226; have BK222 := n0_; have BK223 := n1_; have BK237 := n2_; have BK246 := n3_; have HO258 := n4_; have HO265 := n5_; have HB := n6_; have HI226 := n7_; clear n0_ n1_ n2_ n3_ n4_ n5_ n6_ n7_; (try clear hb); (try clear hb2); (try clear hk); (try clear hi); obtain ⟨Ao141, co141, eo141⟩ := Kd.R_slice HO265.out; subst eo141; have p268 : 0 ≤ (t266 : Int) := of_decide_eq_true (by first | (with_reducible assumption) | assumption); have q268 : t266 < (y263.length : Int) := of_decide_eq_true (by first | (with_reducible assumption) | assumption); obtain ⟨ad268, e268, hx268_0⟩ := Kd.at_int (Kd.R_reads' HO265.out).2.2 t266 p268 q268; cases e268; replace p268 := eq_true p268; replace q268 := eq_true q268; have hnb142 := NB237_222.out; have hnc142 := NB222_237.out; have hnb143 := NB237_223.out; have hnc143 := NB223_237.out; have hnb144 := NB237_226.out; have hnc144 := NB226_237.out; have hcz145_0 : w140.cell? ⟨gb237, 0, none⟩ = some (.int .i64 t233) := (bC BK237.out 0).trans rfl; have hcz145_1 : w140.cell? ⟨gb237, 1, none⟩ = some (.int .i64 t234) := (bC BK237.out 1).trans rfl; have hcz145_2 : w140.cell? ⟨gb237, 2, none⟩ = some (.string t235) := (bC BK237.out 2).trans rfl; have hfz145_0 := bF BK237.out 0; have hfz145_1 := bF BK237.out 1; have hfz145_2 := bF BK237.out 2))
                go_meet
                case rel => exact ⟨_, (t267), (rd y263 t266), (8), H', ⟨by have := HJ4.out; have := HJ18.out; have := HJ30.out; have := HJ53.out; have := HJ64.out; first | omega | exact Nat.le_refl _⟩, ⟨by (with_reducible repeat (first | apply bN | apply bD | apply bA)); refine blk_far ?_ NB222_237.out _; (with_reducible repeat (first | apply bN | apply bD | apply bA)); exact BK222.out⟩, ⟨by (with_reducible repeat (first | apply bN | apply bD | apply bA)); refine blk_far ?_ NB223_237.out _; (with_reducible repeat (first | apply bN | apply bD | apply bA)); exact BK223.out⟩, ⟨by (with_reducible repeat (first | apply bN | apply bD | apply bA)); refine blk_put (cs := #[.int .i64 t233, .int .i64 t234, .string t235]) ?_ 1 _ rfl; (with_reducible repeat (first | apply bN | apply bD | apply bA)); exact BK237.out⟩, ⟨by (with_reducible repeat (first | apply bN | apply bD | apply bA)); refine blk_far ?_ NB246_237.out _; (with_reducible repeat (first | apply bN | apply bD | apply bA)); exact BK246.out⟩, ⟨by repeat (first | (with_reducible first | exact HI226.out | apply IsS145.alloc | apply IsS145.drewN | apply IsS145.drew | apply IsS145.set_1 | refine IsS145.far ?_ NB226_222.out _ | refine IsS145.far ?_ NB226_223.out _ | refine IsS145.far ?_ NB226_237.out _ | refine IsS145.far ?_ NB226_246.out _) | exact HI226.out)⟩, ⟨by repeat (first | (with_reducible first | exact HB.out | apply wA | apply wN | apply wD | refine wS ?_ (IsS145.ge HI226.out) | refine wS ?_ GE222.out | refine wS ?_ GE223.out | refine wS ?_ GE237.out | refine wS ?_ GE246.out) | exact HB.out)⟩⟩
              rw [if_neg c104] at H
              exact absurd H (by simp)
            rw [if_neg c103] at H
            exact absurd H (by simp)
          rw [if_neg c101] at H
          have c101b0 : decide ((wrap64 (t262 / 2)) < (rd y256 t259)) = false := decide_eq_false c101
          clear c101
          obtain ⟨y269, hy269⟩ : ∃ y_ : List Int, y_ = (([1, 5, 100] : List Int)) := ⟨_, rfl⟩
          replace H : ((spec_l1Rd_pick.f kj64 t224 t260 3).bind fun bt272 => (if 0 ≤ bt272.1 then (if bt272.1 < (y269.length : Int) then (if x7_18 ≥ 7 then (spec_DrawBinary.j5 kj64 (wrap64 (1 + t227)) t224 bt272.2 t233 (wrap64 (-(rd y269 bt272.1))) t235 t242 (rd y256 t259) t244) else (spec_DrawBinary.j5 kj64 (wrap64 (1 + t227)) t224 bt272.2 t233 (rd y269 bt272.1) t235 t242 (rd y256 t259) t244)) else (none)) else (none))) = some (r1, r2, r3, r4, r5, r6, r7) := by first | (rw [hy269]; with_reducible exact H) | (have H2_ := (Option.bind_some _ _).symm.trans H; rw [hy269]; with_reducible exact H2_) | (have H2_ := (Option.bind_some _ _).symm.trans H; with_reducible exact H2_) | with_reducible exact H | (rw [hy269]; exact H) | exact H
          have Ny269 := mk0 hy269
          clear hy269
          replace H := Option.bind_eq_some_iff.mp H
          obtain ⟨⟨t272, t273⟩, A1460, H⟩ := H
          replace H : (if 0 ≤ t272 then (if t272 < (y269.length : Int) then (if x7_18 ≥ 7 then (spec_DrawBinary.j5 kj64 (wrap64 (1 + t227)) t224 t273 t233 (wrap64 (-(rd y269 t272))) t235 t242 (rd y256 t259) t244) else (spec_DrawBinary.j5 kj64 (wrap64 (1 + t227)) t224 t273 t233 (rd y269 t272) t235 t242 (rd y256 t259) t244)) else (none)) else (none)) = some (r1, r2, r3, r4, r5, r6, r7) := H
          have A146 := mk0 A1460
          clear A1460
          by_cases c147 : 0 ≤ t272
          · rw [if_pos c147] at H
            have c147b0 : decide (0 ≤ t272) = true := decide_eq_true c147
            clear c147
            by_cases c148 : t272 < (y269.length : Int)
            · rw [if_pos c148] at H
              have c148b0 : decide (t272 < (y269.length : Int)) = true := decide_eq_true c148
              clear c148
              by_cases c149 : x7_18 ≥ 7
              · rw [if_pos c149] at H
                have c149b0 : decide (7 ≤ x7_18) = true := decide_eq_true c149
                clear c149
                have H' := mk0 H
                clear H
                try go_wp2_with (first | ((with_reducible refine gate_dst (N := 79) rfl ?_); refine Kd.R_lit (Kd.int .i64) _ 2 ?hg (N := 79) ?hd (xs := ([8, 16, 32, 64, 7, 15, 31, 63] : List Int)) (inner := [.int .i64 8, .int .i64 16, .int .i64 32, .int .i64 64, .int .i64 7, .int .i64 15, .int .i64 31, .int .i64 63]) (ok := fun _ => True) (okp := fun _ => True) ?hr ?hp (fun _ hk => hk) trivial (Below.refl _ _) (Nat.le_refl _) (by simp) ?_; (case hd => rfl); (case hg => rfl); (case hr => first | (go_simp; done) | (go_simp; rfl)); (case hp => exact (Reps.one (show Kd.M (Kd.int .i64) _ _ _ 8 [.int .i64 8] from rfl) (Reps.one (show Kd.M (Kd.int .i64) _ _ _ 16 [.int .i64 16] from rfl) (Reps.one (show Kd.M (Kd.int .i64) _ _ _ 32 [.int .i64 32] from rfl) (Reps.one (show Kd.M (Kd.int .i64) _ _ _ 64 [.int .i64 64] from rfl) (Reps.one (show Kd.M (Kd.int .i64) _ _ _ 7 [.int .i64 7] from rfl) (Reps.one (show Kd.M (Kd.int .i64) _ _ _ 15 [.int .i64 15] from rfl) (Reps.one (show Kd.M (Kd.int .i64) _ _ _ 31 [.int .i64 31] from rfl) (Reps.one (show Kd.M (Kd.int .i64) _ _ _ 63 [.int .i64 63] from rfl) (Reps.none _ _)))))))))); intro v257 w150 ho151 hb hg_ hnew_; clear hg_ hnew_; (first | rw [← Ny256.out] at ho151 | (simp only [Int.reduceToNat] at ho151; rw [← Ny256.out] at ho151)); have n0_ := mk0 (Kd.R_lower ho151 (below_size (by repeat (first | (with_reducible first | exact HB.out | apply wA | apply wN | apply wD | refine wS ?_ (IsS145.ge HI226.out) | refine wS ?_ GE222.out | refine wS ?_ GE223.out | refine wS ?_ GE237.out | refine wS ?_ GE246.out) | exact HB.out)))); have n1_ := mk0 (bB (g := gb222) (o := .cells #[.int .i64 0, .int .i64 0, .string (⟨#[]⟩ : ByteArray)] 34 (0, 0)) (by (with_reducible repeat (first | apply bN | apply bD | apply bA)); exact BK222.out) hb); have n2_ := mk0 (bB (g := gb223) (o := .cells #[.int .i64 0, .int .i64 0, .string (⟨#[]⟩ : ByteArray)] 34 (0, 0)) (by (with_reducible repeat (first | apply bN | apply bD | apply bA)); exact BK223.out) hb); have n3_ := mk0 (bB (g := gb237) (o := .cells #[.int .i64 t233, .int .i64 t234, .string t235] 34 (0, 0)) (by (with_reducible repeat (first | apply bN | apply bD | apply bA)); exact BK237.out) hb); have n4_ := mk0 (bB (g := gb246) (o := .cells #[.int .i64 t242, .int .i64 x247001_53, .string t244] 34 (0, 0)) (by (with_reducible repeat (first | apply bN | apply bD | apply bA)); exact BK246.out) hb); have n5_ := mk0 (IsS145.below (by repeat (first | (with_reducible first | exact HI226.out | apply IsS145.alloc | apply IsS145.drewN | apply IsS145.drew | apply IsS145.set_1 | refine IsS145.far ?_ NB226_222.out _ | refine IsS145.far ?_ NB226_223.out _ | refine IsS145.far ?_ NB226_237.out _ | refine IsS145.far ?_ NB226_246.out _) | exact HI226.out)) hb); have n6_ := mk0 (below_step (by repeat (first | (with_reducible first | exact HB.out | apply wA | apply wN | apply wD | refine wS ?_ (IsS145.ge HI226.out) | refine wS ?_ GE222.out | refine wS ?_ GE223.out | refine wS ?_ GE237.out | refine wS ?_ GE246.out) | exact HB.out)) hb); clear BK222; clear BK223; clear BK237; clear BK246; clear HI226; clear HB; have HO258 := n0_; have BK222 := n1_; have BK223 := n2_; have BK237 := n3_; have BK246 := n4_; have HI226 := n5_; have HB := n6_; clear n0_ n1_ n2_ n3_ n4_ n5_ n6_; clear hb ho151) | ((with_reducible refine gate_callee (f := 89) rfl ?_); refine goesL_ (some 81) rfl rfl Try.func89 (by kernel_rfl) rfl #[.pointer (some ⟨g226, 0, none⟩), .int .i64 8] rfl (by (try simp only [List.map_toArray, List.map_cons, List.map_nil]); first | done | rfl | (simp only [List.length_drop, List.length_take]; rfl)) ?_; (with_reducible refine (spec_l1Rd_pick.calls kj64 g226 t224 x227001_64 8 t259 t260 w _ ?side1 ?side2 A97.out).mono ?_); (case side1 => repeat (first | (with_reducible first | exact HI226.out | apply IsS145.alloc | apply IsS145.drewN | apply IsS145.drew | apply IsS145.set_1 | refine IsS145.far ?_ NB226_222.out _ | refine IsS145.far ?_ NB226_223.out _ | refine IsS145.far ?_ NB226_237.out _ | refine IsS145.far ?_ NB226_246.out _) | exact HI226.out)); (case side2 => repeat (first | (with_reducible first | exact HB.out | apply wA | apply wN | apply wD | refine wS ?_ (IsS145.ge HI226.out) | refine wS ?_ GE222.out | refine wS ?_ GE223.out | refine wS ?_ GE237.out | refine wS ?_ GE246.out) | exact HB.out)); rintro e w152 ⟨rfl, hi, hb, hk⟩; refine ⟨_, rfl, ?_⟩; have n0_ := mk0 (KeepBut.blk hk (g' := gb222) (o := .cells #[.int .i64 0, .int .i64 0, .string (⟨#[]⟩ : ByteArray)] 34 (0, 0)) (by (with_reducible repeat (first | apply bN | apply bD | apply bA)); exact BK222.out) NB222_226.out (by simp)); have n1_ := mk0 (KeepBut.blk hk (g' := gb223) (o := .cells #[.int .i64 0, .int .i64 0, .string (⟨#[]⟩ : ByteArray)] 34 (0, 0)) (by (with_reducible repeat (first | apply bN | apply bD | apply bA)); exact BK223.out) NB223_226.out (by simp)); have n2_ := mk0 (KeepBut.blk hk (g' := gb237) (o := .cells #[.int .i64 t233, .int .i64 t234, .string t235] 34 (0, 0)) (by (with_reducible repeat (first | apply bN | apply bD | apply bA)); exact BK237.out) NB237_226.out (by simp)); have n3_ := mk0 (KeepBut.blk hk (g' := gb246) (o := .cells #[.int .i64 t242, .int .i64 x247001_53, .string t244] 34 (0, 0)) (by (with_reducible repeat (first | apply bN | apply bD | apply bA)); exact BK246.out) NB246_226.out (by simp)); have n4_ := mk0 (Kd.R_mono (Kd.R_keep (IsS145.apart (show IsS145 w _ g226 t224 x227001_64 from by repeat (first | (with_reducible first | exact HI226.out | apply IsS145.alloc | apply IsS145.drewN | apply IsS145.drew | apply IsS145.set_1 | refine IsS145.far ?_ NB226_222.out _ | refine IsS145.far ?_ NB226_223.out _ | refine IsS145.far ?_ NB226_237.out _ | refine IsS145.far ?_ NB226_246.out _) | exact HI226.out)) (by (with_reducible repeat (first | apply Kd.R_alloc | apply Kd.R_drewN | apply Kd.R_drew)); exact HO258.out) (by decide)) hk (fun _ h => h.2)) (fun _ h => h.1)); have n5_ := mk0 (hb); have n6_ := mk0 (hi); clear BK222; clear BK223; clear BK237; clear BK246; clear HO258; clear HB; clear HI226; have BK222 := n0_; have BK223 := n1_; have BK237 := n2_; have BK246 := n3_; have HO258 := n4_; have HB := n5_; have HI226 := n6_; clear n0_ n1_ n2_ n3_ n4_ n5_ n6_; (try clear hb); (try clear hb2); (try clear hk); (try clear hi); obtain ⟨Ao153, co153, eo153⟩ := Kd.R_slice HO258.out; subst eo153; have p261 : 0 ≤ (t259 : Int) := of_decide_eq_true (by first | (with_reducible assumption) | assumption); have q261 : t259 < (y256.length : Int) := of_decide_eq_true (by first | (with_reducible assumption) | assumption); obtain ⟨ad261, e261, hx261_0⟩ := Kd.at_int (Kd.R_reads' HO258.out).2.2 t259 p261 q261; cases e261; replace p261 := eq_true p261; replace q261 := eq_true q261; have hnb154 := NB246_222.out; have hnc154 := NB222_246.out; have hnb155 := NB246_223.out; have hnc155 := NB223_246.out; have hnb156 := NB246_237.out; have hnc156 := NB237_246.out; have hnb157 := NB246_226.out; have hnc157 := NB226_246.out; have hcz158_0 : w152.cell? ⟨gb246, 0, none⟩ = some (.int .i64 t242) := (bC BK246.out 0).trans rfl; have hcz158_1 : w152.cell? ⟨gb246, 1, none⟩ = some (.int .i64 x247001_53) := (bC BK246.out 1).trans rfl; have hcz158_2 : w152.cell? ⟨gb246, 2, none⟩ = some (.string t244) := (bC BK246.out 2).trans rfl; have hfz158_0 := bF BK246.out 0; have hfz158_1 := bF BK246.out 1; have hfz158_2 := bF BK246.out 2))
                have n0_ : Aside0 (Kd.R (Kd.int .i64) 2 (w152.setCell ⟨gb246, 1, none⟩ (.int .i64 (rd y256 t259))) w.heap.size (fun _ => True) (.slice (some ad261) y256.length co153) y256) := ⟨by (with_reducible repeat (first | apply Kd.R_alloc | apply Kd.R_drewN | apply Kd.R_drew)); exact Kd.R_mono (Kd.R_far (p := ⟨gb246, 1, none⟩) (Kd.R_types HO258.out BK246.out (by decide)) (fun _ hk => hk.2) (.int .i64 (rd y256 t259))) (fun _ hk => trivial)⟩
                have n1_ : Aside0 ((w152.setCell ⟨gb246, 1, none⟩ (.int .i64 (rd y256 t259))).heap[gb222]? = some (.cells #[.int .i64 0, .int .i64 0, .string (⟨#[]⟩ : ByteArray)] 34 (0, 0))) := ⟨by (with_reducible repeat (first | apply bN | apply bD | apply bA)); refine blk_far ?_ NB222_246.out _; (with_reducible repeat (first | apply bN | apply bD | apply bA)); exact BK222.out⟩
                have n2_ : Aside0 ((w152.setCell ⟨gb246, 1, none⟩ (.int .i64 (rd y256 t259))).heap[gb223]? = some (.cells #[.int .i64 0, .int .i64 0, .string (⟨#[]⟩ : ByteArray)] 34 (0, 0))) := ⟨by (with_reducible repeat (first | apply bN | apply bD | apply bA)); refine blk_far ?_ NB223_246.out _; (with_reducible repeat (first | apply bN | apply bD | apply bA)); exact BK223.out⟩
                have n3_ : Aside0 ((w152.setCell ⟨gb246, 1, none⟩ (.int .i64 (rd y256 t259))).heap[gb237]? = some (.cells #[.int .i64 t233, .int .i64 t234, .string t235] 34 (0, 0))) := ⟨by (with_reducible repeat (first | apply bN | apply bD | apply bA)); refine blk_far ?_ NB237_246.out _; (with_reducible repeat (first | apply bN | apply bD | apply bA)); exact BK237.out⟩
                have n4_ : Aside0 ((w152.setCell ⟨gb246, 1, none⟩ (.int .i64 (rd y256 t259))).heap[gb246]? = some (.cells #[.int .i64 t242, .int .i64 (rd y256 t259), .string t244] 34 (0, 0))) := ⟨by (with_reducible repeat (first | apply bN | apply bD | apply bA)); refine blk_put (cs := #[.int .i64 t242, .int .i64 x247001_53, .string t244]) ?_ 1 _ rfl; (with_reducible repeat (first | apply bN | apply bD | apply bA)); exact BK246.out⟩
                have n5_ : Aside0 (IsS145 w (w152.setCell ⟨gb246, 1, none⟩ (.int .i64 (rd y256 t259))) g226 t224 t260) := ⟨by repeat (first | (with_reducible first | exact HI226.out | apply IsS145.alloc | apply IsS145.drewN | apply IsS145.drew | apply IsS145.set_1 | refine IsS145.far ?_ NB226_222.out _ | refine IsS145.far ?_ NB226_223.out _ | refine IsS145.far ?_ NB226_237.out _ | refine IsS145.far ?_ NB226_246.out _) | exact HI226.out)⟩
                have n6_ : Aside0 (Below w.heap.size w (w152.setCell ⟨gb246, 1, none⟩ (.int .i64 (rd y256 t259)))) := ⟨by repeat (first | (with_reducible first | exact HB.out | apply wA | apply wN | apply wD | refine wS ?_ (IsS145.ge HI226.out) | refine wS ?_ GE222.out | refine wS ?_ GE223.out | refine wS ?_ GE237.out | refine wS ?_ GE246.out) | exact HB.out)⟩
                (try clear HO258)
                (try clear BK222)
                (try clear BK223)
                (try clear BK237)
                (try clear BK246)
                (try clear HI226)
                (try clear HB)
                generalize (w152.setCell ⟨gb246, 1, none⟩ (.int .i64 (rd y256 t259))) = w159 at n0_ n1_ n2_ n3_ n4_ n5_ n6_ ⊢
                have HO258 := n0_
                have BK222 := n1_
                have BK223 := n2_
                have BK237 := n3_
                have BK246 := n4_
                have HI226 := n5_
                have HB := n6_
                clear n0_ n1_ n2_ n3_ n4_ n5_ n6_
                have n0_ := mk0 (Kd.R_drew HO258.out)
                have n1_ := mk0 (bD BK222.out)
                have n2_ := mk0 (bD BK223.out)
                have n3_ := mk0 (bD BK237.out)
                have n4_ := mk0 (bD BK246.out)
                have n5_ := mk0 (IsS145.drew HI226.out)
                have n6_ := mk0 (wD HB.out)
                clear HO258
                clear BK222
                clear BK223
                clear BK237
                clear BK246
                clear HI226
                clear HB
                have HO258 := n0_
                have BK222 := n1_
                have BK223 := n2_
                have BK237 := n3_
                have BK246 := n4_
                have HI226 := n5_
                have HB := n6_
                clear n0_ n1_ n2_ n3_ n4_ n5_ n6_
                refine start_ (n := 7) (S := fun w' => w'.cell? ⟨gb246, 0, none⟩ = some (.int .i64 t242) ∧ w'.cell? ⟨gb246, 1, none⟩ = some (.int .i64 (rd y256 t259)) ∧ w'.cell? ⟨gb246, 2, none⟩ = some (.string t244)) (ds := []) #[false, false, false, false, false, false, false] (by kernel_rfl) rfl rfl ⟨(bC BK246.out 0).trans rfl, (bC BK246.out 1).trans rfl, (bC BK246.out 2).trans rfl⟩ (fun hHeld => ?_)
                generalize w159.drew = w160 at HO258 BK222 BK223 BK237 BK246 HI226 HB hHeld ⊢
                refine pure_ (i := 0) (N := some 85) (v := ?_) (a' := ?_) #[true, false, false, false, false, false, false] rfl rfl (by kernel_rfl) (fun _ _ _ h => h) (Or.inl ⟨by rfl, ?_⟩) ?_ ?_
                rotate_left
                · intro w'
                  go_simp
                  with_reducible rfl
                rotate_left
                · simp only [Act.put, List.setIfInBounds_toArray, List.set_cons_zero, List.set_cons_succ, i64_w, i32_w]
                  rfl
                refine pure_ (i := 2) (N := some 87) (v := ?_) (a' := ?_) #[true, false, true, false, false, false, false] rfl rfl (by kernel_rfl) (fun _ _ _ h => h) (Or.inl ⟨by rfl, ?_⟩) ?_ ?_
                rotate_left
                · intro w'
                  go_simp
                  with_reducible rfl
                rotate_left
                · simp only [Act.put, List.setIfInBounds_toArray, List.set_cons_zero, List.set_cons_succ, i64_w, i32_w]
                  rfl
                refine take_ (i := 1) (N := some 86) (v := ?_) (a' := ?_) #[true, true, true, false, false, false, false] rfl rfl (by kernel_rfl) (fun _ _ _ h => h) (Or.inl ⟨by rfl, ?_⟩) hHeld ?_ ?_
                rotate_left
                · rintro w' ⟨s0, s1, s2⟩
                  go_simp
                  with_reducible rfl
                rotate_left
                · simp only [Act.put, List.setIfInBounds_toArray, List.set_cons_zero, List.set_cons_succ, i64_w, i32_w]
                  rfl
                refine one_ (i := 3) (N := some 88) #[true, true, true, true, false, false, false] rfl rfl (by kernel_rfl) (by decide) (fun K hK => ?_)
                refine goes_ Try.func91 (by kernel_rfl) rfl #[.int .i64 x7_18] (by rfl) rfl rfl (by (try simp only [List.map_toArray, List.map_cons, List.map_nil]); first | done | rfl | (simp only [List.length_drop, List.length_take]; rfl)) ?_
                with_reducible refine (spec_l1Max.calls kj64 x7_18 t262 _ A100.out).mono ?_
                rintro e w' ⟨rfl, ⟨nd, rfl⟩⟩
                refine ⟨_, rfl, ?_⟩
                refine hK.out _ _ ⟨(bC BK246.out 0).trans rfl, (bC BK246.out 1).trans rfl, (bC BK246.out 2).trans rfl⟩ (fun hHeld => ?_)
                clear hK K
                refine norm_ (a' := ?_) ?_ ?_
                rotate_left
                · show Act.put _ (some 88) _ = _
                  simp only [Act.put, List.setIfInBounds_toArray, List.set_cons_zero, List.set_cons_succ, i64_w, i32_w]
                  rfl
                refine pure_ (i := 4) (N := some 89) (v := ?_) (a' := ?_) #[true, true, true, true, true, false, false] rfl rfl (by kernel_rfl) (fun _ _ _ h => h) (Or.inl ⟨by rfl, ?_⟩) ?_ ?_
                rotate_left
                · intro w'
                  go_simp
                  with_reducible rfl
                rotate_left
                · simp only [Act.put, List.setIfInBounds_toArray, List.set_cons_zero, List.set_cons_succ, i64_w, i32_w]
                  rfl
                refine pure_ (i := 5) (N := some 90) (v := ?_) (a' := ?_) #[true, true, true, true, true, true, false] rfl rfl (by kernel_rfl) (fun _ _ _ h => h) (Or.inl ⟨by rfl, ?_⟩) ?_ ?_
                rotate_left
                · intro w'
                  go_simp
                  with_reducible rfl
                rotate_left
                · simp only [Act.put, List.setIfInBounds_toArray, List.set_cons_zero, List.set_cons_succ, i64_w, i32_w]
                  rfl
                refine pure_ (i := 6) (N := some 91) (v := ?_) (a' := ?_) #[true, true, true, true, true, true, true] rfl rfl (by kernel_rfl) (fun _ _ _ h => h) (Or.inl ⟨by rfl, ?_⟩) ?_ ?_
                rotate_left
                · intro w'
                  go_simp
                  with_reducible rfl
                rotate_left
                · simp only [Act.put, List.setIfInBounds_toArray, List.set_cons_zero, List.set_cons_succ, i64_w, i32_w]
                  rfl
                refine done_ (by kernel_rfl) ?_
                try go_wp2_with (first | ((with_reducible refine gate_dst (N := 93) rfl ?_); refine Kd.R_lit (Kd.int .i64) _ 2 ?hg (N := 93) ?hd (xs := ([1, 5, 100] : List Int)) (inner := [.int .i64 1, .int .i64 5, .int .i64 100]) (ok := fun _ => True) (okp := fun _ => True) ?hr ?hp (fun _ hk => hk) trivial (Below.refl _ _) (Nat.le_refl _) (by simp) ?_; (case hd => rfl); (case hg => rfl); (case hr => first | (go_simp; done) | (go_simp; rfl)); (case hp => exact (Reps.one (show Kd.M (Kd.int .i64) _ _ _ 1 [.int .i64 1] from rfl) (Reps.one (show Kd.M (Kd.int .i64) _ _ _ 5 [.int .i64 5] from rfl) (Reps.one (show Kd.M (Kd.int .i64) _ _ _ 100 [.int .i64 100] from rfl) (Reps.none _ _))))); intro v270 w161 ho162 hb hg_ hnew_; clear hg_ hnew_; (first | rw [← Ny269.out] at ho162 | (simp only [Int.reduceToNat] at ho162; rw [← Ny269.out] at ho162)); have n0_ := mk0 (Kd.R_elder' (by (with_reducible repeat (first | apply Kd.R_alloc | apply Kd.R_drewN | apply Kd.R_drew)); exact HO258.out) (Kd.R_base ho162) hb); have n1_ := mk0 (Kd.R_lower (Kd.R_new' ho162 (Kd.R_lt (by (with_reducible repeat (first | apply Kd.R_alloc | apply Kd.R_drewN | apply Kd.R_drew)); exact HO258.out))) (below_size (by repeat (first | (with_reducible first | exact HB.out | apply wA | apply wN | apply wD | refine wS ?_ (IsS145.ge HI226.out) | refine wS ?_ GE222.out | refine wS ?_ GE223.out | refine wS ?_ GE237.out | refine wS ?_ GE246.out) | exact HB.out)))); have n2_ := mk0 (bB (g := gb222) (o := .cells #[.int .i64 0, .int .i64 0, .string (⟨#[]⟩ : ByteArray)] 34 (0, 0)) (by (with_reducible repeat (first | apply bN | apply bD | apply bA)); exact BK222.out) hb); have n3_ := mk0 (bB (g := gb223) (o := .cells #[.int .i64 0, .int .i64 0, .string (⟨#[]⟩ : ByteArray)] 34 (0, 0)) (by (with_reducible repeat (first | apply bN | apply bD | apply bA)); exact BK223.out) hb); have n4_ := mk0 (bB (g := gb237) (o := .cells #[.int .i64 t233, .int .i64 t234, .string t235] 34 (0, 0)) (by (with_reducible repeat (first | apply bN | apply bD | apply bA)); exact BK237.out) hb); have n5_ := mk0 (bB (g := gb246) (o := .cells #[.int .i64 t242, .int .i64 (rd y256 t259), .string t244] 34 (0, 0)) (by (with_reducible repeat (first | apply bN | apply bD | apply bA)); exact BK246.out) hb); have n6_ := mk0 (IsS145.below (by repeat (first | (with_reducible first | exact HI226.out | apply IsS145.alloc | apply IsS145.drewN | apply IsS145.drew | apply IsS145.set_1 | refine IsS145.far ?_ NB226_222.out _ | refine IsS145.far ?_ NB226_223.out _ | refine IsS145.far ?_ NB226_237.out _ | refine IsS145.far ?_ NB226_246.out _) | exact HI226.out)) hb); have n7_ := mk0 (below_step (by repeat (first | (with_reducible first | exact HB.out | apply wA | apply wN | apply wD | refine wS ?_ (IsS145.ge HI226.out) | refine wS ?_ GE222.out | refine wS ?_ GE223.out | refine wS ?_ GE237.out | refine wS ?_ GE246.out) | exact HB.out)) hb); clear HO258; clear BK222; clear BK223; clear BK237; clear BK246; clear HI226; clear HB; have HO258 := n0_; have HO271 := n1_; have BK222 := n2_; have BK223 := n3_; have BK237 := n4_; have BK246 := n5_; have HI226 := n6_; have HB := n7_; clear n0_ n1_ n2_ n3_ n4_ n5_ n6_ n7_; clear hb ho162) | ((with_reducible refine gate_callee (f := 89) rfl ?_); refine goesL_ (some 95) rfl rfl Try.func89 (by kernel_rfl) rfl #[.pointer (some ⟨g226, 0, none⟩), .int .i64 3] rfl (by (try simp only [List.map_toArray, List.map_cons, List.map_nil]); first | done | rfl | (simp only [List.length_drop, List.length_take]; rfl)) ?_; (with_reducible refine (spec_l1Rd_pick.calls kj64 g226 t224 t260 3 t272 t273 w _ ?side1 ?side2 A146.out).mono ?_); (case side1 => repeat (first | (with_reducible first | exact HI226.out | apply IsS145.alloc | apply IsS145.drewN | apply IsS145.drew | apply IsS145.set_1 | refine IsS145.far ?_ NB226_222.out _ | refine IsS145.far ?_ NB226_223.out _ | refine IsS145.far ?_ NB226_237.out _ | refine IsS145.far ?_ NB226_246.out _) | exact HI226.out)); (case side2 => repeat (first | (with_reducible first | exact HB.out | apply wA | apply wN | apply wD | refine wS ?_ (IsS145.ge HI226.out) | refine wS ?_ GE222.out | refine wS ?_ GE223.out | refine wS ?_ GE237.out | refine wS ?_ GE246.out) | exact HB.out)); rintro e w163 ⟨rfl, hi, hb, hk⟩; refine ⟨_, rfl, ?_⟩; have n0_ := mk0 (KeepBut.blk hk (g' := gb222) (o := .cells #[.int .i64 0, .int .i64 0, .string (⟨#[]⟩ : ByteArray)] 34 (0, 0)) (by (with_reducible repeat (first | apply bN | apply bD | apply bA)); exact BK222.out) NB222_226.out (by simp)); have n1_ := mk0 (KeepBut.blk hk (g' := gb223) (o := .cells #[.int .i64 0, .int .i64 0, .string (⟨#[]⟩ : ByteArray)] 34 (0, 0)) (by (with_reducible repeat (first | apply bN | apply bD | apply bA)); exact BK223.out) NB223_226.out (by simp)); have n2_ := mk0 (KeepBut.blk hk (g' := gb237) (o := .cells #[.int .i64 t233, .int .i64 t234, .string t235] 34 (0, 0)) (by (with_reducible repeat (first | apply bN | apply bD | apply bA)); exact BK237.out) NB237_226.out (by simp)); have n3_ := mk0 (KeepBut.blk hk (g' := gb246) (o := .cells #[.int .i64 t242, .int .i64 (rd y256 t259), .string t244] 34 (0, 0)) (by (with_reducible repeat (first | apply bN | apply bD | apply bA)); exact BK246.out) NB246_226.out (by simp)); have n4_ := mk0 (Kd.R_mono (Kd.R_keep (IsS145.apart (show IsS145 w _ g226 t224 t260 from by repeat (first | (with_reducible first | exact HI226.out | apply IsS145.alloc | apply IsS145.drewN | apply IsS145.drew | apply IsS145.set_1 | refine IsS145.far ?_ NB226_222.out _ | refine IsS145.far ?_ NB226_223.out _ | refine IsS145.far ?_ NB226_237.out _ | refine IsS145.far ?_ NB226_246.out _) | exact HI226.out)) (by (with_reducible repeat (first | apply Kd.R_alloc | apply Kd.R_drewN | apply Kd.R_drew)); exact HO258.out) (by decide)) hk (fun _ h => h.2)) (fun _ h => h.1)); have n5_ := mk0 (Kd.R_mono (Kd.R_keep (IsS145.apart (show IsS145 w _ g226 t224 t260 from by repeat (first | (with_reducible first | exact HI226.out | apply IsS145.alloc | apply IsS145.drewN | apply IsS145.drew | apply IsS145.set_1 | refine IsS145.far ?_ NB226_222.out _ | refine IsS145.far ?_ NB226_223.out _ | refine IsS145.far ?_ NB226_237.out _ | refine IsS145.far ?_ NB226_246.out _) | exact HI226.out)) (by (with_reducible repeat (first | apply Kd.R_alloc | apply Kd.R_drewN | apply Kd.R_drew)); exact HO271.out) (by decide)) hk (fun _ h => h.2)) (fun _ h => h.1)); have n6_ := mk0 (hb); have n7_ := mk0 (hi); clear BK222; clear BK223; clear BK237; clear BK246; clear HO258; clear HO271; clear HB; clear HI226; have BK222 := n0_; have BK223 := n1_; have BK237 := n2_; have BK246 := n3_; have HO258 := n4_; have HO271 := n5_; have HB := n6_; have HI226 := n7_; clear n0_ n1_ n2_ n3_ n4_ n5_ n6_ n7_; (try clear hb); (try clear hb2); (try clear hk); (try clear hi); obtain ⟨Ao164, co164, eo164⟩ := Kd.R_slice HO271.out; subst eo164; have p274 : 0 ≤ (t272 : Int) := of_decide_eq_true (by first | (with_reducible assumption) | assumption); have q274 : t272 < (y269.length : Int) := of_decide_eq_true (by first | (with_reducible assumption) | assumption); obtain ⟨ad274, e274, hx274_0⟩ := Kd.at_int (Kd.R_reads' HO271.out).2.2 t272 p274 q274; cases e274; replace p274 := eq_true p274; replace q274 := eq_true q274; have hnb165 := NB237_222.out; have hnc165 := NB222_237.out; have hnb166 := NB237_223.out; have hnc166 := NB223_237.out; have hnb167 := NB237_226.out; have hnc167 := NB226_237.out; have hcz168_0 : w163.cell? ⟨gb237, 0, none⟩ = some (.int .i64 t233) := (bC BK237.out 0).trans rfl; have hcz168_1 : w163.cell? ⟨gb237, 1, none⟩ = some (.int .i64 t234) := (bC BK237.out 1).trans rfl; have hcz168_2 : w163.cell? ⟨gb237, 2, none⟩ = some (.string t235) := (bC BK237.out 2).trans rfl; have hfz168_0 := bF BK237.out 0; have hfz168_1 := bF BK237.out 1; have hfz168_2 := bF BK237.out 2))
                go_meet
                case rel => exact ⟨_, (t273), (wrap64 (-(rd y269 t272))), (rd y256 t259), H', ⟨by have := HJ4.out; have := HJ18.out; have := HJ30.out; have := HJ53.out; have := HJ64.out; first | omega | exact Nat.le_refl _⟩, ⟨by (with_reducible repeat (first | apply bN | apply bD | apply bA)); refine blk_far ?_ NB222_237.out _; (with_reducible repeat (first | apply bN | apply bD | apply bA)); refine blk_far ?_ NB222_237.out _; (with_reducible repeat (first | apply bN | apply bD | apply bA)); exact BK222.out⟩, ⟨by (with_reducible repeat (first | apply bN | apply bD | apply bA)); refine blk_far ?_ NB223_237.out _; (with_reducible repeat (first | apply bN | apply bD | apply bA)); refine blk_far ?_ NB223_237.out _; (with_reducible repeat (first | apply bN | apply bD | apply bA)); exact BK223.out⟩, ⟨by (with_reducible repeat (first | apply bN | apply bD | apply bA)); refine blk_put (cs := #[.int .i64 t233, .int .i64 (rd y269 t272), .string t235]) ?_ 1 _ rfl; (with_reducible repeat (first | apply bN | apply bD | apply bA)); refine blk_put (cs := #[.int .i64 t233, .int .i64 t234, .string t235]) ?_ 1 _ rfl; (with_reducible repeat (first | apply bN | apply bD | apply bA)); exact BK237.out⟩, ⟨by (with_reducible repeat (first | apply bN | apply bD | apply bA)); refine blk_far ?_ NB246_237.out _; (with_reducible repeat (first | apply bN | apply bD | apply bA)); refine blk_far ?_ NB246_237.out _; (with_reducible repeat (first | apply bN | apply bD | apply bA)); exact BK246.out⟩, ⟨by repeat (first | (with_reducible first | exact HI226.out | apply IsS145.alloc | apply IsS145.drewN | apply IsS145.drew | apply IsS145.set_1 | refine IsS145.far ?_ NB226_222.out _ | refine IsS145.far ?_ NB226_223.out _ | refine IsS145.far ?_ NB226_237.out _ | refine IsS145.far ?_ NB226_246.out _) | exact HI226.out)⟩, ⟨by repeat (first | (with_reducible first | exact HB.out | apply wA | apply wN | apply wD | refine wS ?_ (IsS145.ge HI226.out) | refine wS ?_ GE222.out | refine wS ?_ GE223.out | refine wS ?_ GE237.out | refine wS ?_ GE246.out) | exact HB.out)⟩⟩
              rw [if_neg c149] at H
              have c149b0 : decide (7 ≤ x7_18) = false := decide_eq_false c149
              clear c149
              have H' := mk0 H
              clear H
              try go_wp2_with (first | ((with_reducible refine gate_dst (N := 79) rfl ?_); refine Kd.R_lit (Kd.int .i64) _ 2 ?hg (N := 79) ?hd (xs := ([8, 16, 32, 64, 7, 15, 31, 63] : List Int)) (inner := [.int .i64 8, .int .i64 16, .int .i64 32, .int .i64 64, .int .i64 7, .int .i64 15, .int .i64 31, .int .i64 63]) (ok := fun _ => True) (okp := fun _ => True) ?hr ?hp (fun _ hk => hk) trivial (Below.refl _ _) (Nat.le_refl _) (by simp) ?_; (case hd => rfl); (case hg => rfl); (case hr => first | (go_simp; done) | (go_simp; rfl)); (case hp => exact (Reps.one (show Kd.M (Kd.int .i64) _ _ _ 8 [.int .i64 8] from rfl) (Reps.one (show Kd.M (Kd.int .i64) _ _ _ 16 [.int .i64 16] from rfl) (Reps.one (show Kd.M (Kd.int .i64) _ _ _ 32 [.int .i64 32] from rfl) (Reps.one (show Kd.M (Kd.int .i64) _ _ _ 64 [.int .i64 64] from rfl) (Reps.one (show Kd.M (Kd.int .i64) _ _ _ 7 [.int .i64 7] from rfl) (Reps.one (show Kd.M (Kd.int .i64) _ _ _ 15 [.int .i64 15] from rfl) (Reps.one (show Kd.M (Kd.int .i64) _ _ _ 31 [.int .i64 31] from rfl) (Reps.one (show Kd.M (Kd.int .i64) _ _ _ 63 [.int .i64 63] from rfl) (Reps.none _ _)))))))))); intro v257 w169 ho170 hb hg_ hnew_; clear hg_ hnew_; (first | rw [← Ny256.out] at ho170 | (simp only [Int.reduceToNat] at ho170; rw [← Ny256.out] at ho170)); have n0_ := mk0 (Kd.R_lower ho170 (below_size (by repeat (first | (with_reducible first | exact HB.out | apply wA | apply wN | apply wD | refine wS ?_ (IsS145.ge HI226.out) | refine wS ?_ GE222.out | refine wS ?_ GE223.out | refine wS ?_ GE237.out | refine wS ?_ GE246.out) | exact HB.out)))); have n1_ := mk0 (bB (g := gb222) (o := .cells #[.int .i64 0, .int .i64 0, .string (⟨#[]⟩ : ByteArray)] 34 (0, 0)) (by (with_reducible repeat (first | apply bN | apply bD | apply bA)); exact BK222.out) hb); have n2_ := mk0 (bB (g := gb223) (o := .cells #[.int .i64 0, .int .i64 0, .string (⟨#[]⟩ : ByteArray)] 34 (0, 0)) (by (with_reducible repeat (first | apply bN | apply bD | apply bA)); exact BK223.out) hb); have n3_ := mk0 (bB (g := gb237) (o := .cells #[.int .i64 t233, .int .i64 t234, .string t235] 34 (0, 0)) (by (with_reducible repeat (first | apply bN | apply bD | apply bA)); exact BK237.out) hb); have n4_ := mk0 (bB (g := gb246) (o := .cells #[.int .i64 t242, .int .i64 x247001_53, .string t244] 34 (0, 0)) (by (with_reducible repeat (first | apply bN | apply bD | apply bA)); exact BK246.out) hb); have n5_ := mk0 (IsS145.below (by repeat (first | (with_reducible first | exact HI226.out | apply IsS145.alloc | apply IsS145.drewN | apply IsS145.drew | apply IsS145.set_1 | refine IsS145.far ?_ NB226_222.out _ | refine IsS145.far ?_ NB226_223.out _ | refine IsS145.far ?_ NB226_237.out _ | refine IsS145.far ?_ NB226_246.out _) | exact HI226.out)) hb); have n6_ := mk0 (below_step (by repeat (first | (with_reducible first | exact HB.out | apply wA | apply wN | apply wD | refine wS ?_ (IsS145.ge HI226.out) | refine wS ?_ GE222.out | refine wS ?_ GE223.out | refine wS ?_ GE237.out | refine wS ?_ GE246.out) | exact HB.out)) hb); clear BK222; clear BK223; clear BK237; clear BK246; clear HI226; clear HB; have HO258 := n0_; have BK222 := n1_; have BK223 := n2_; have BK237 := n3_; have BK246 := n4_; have HI226 := n5_; have HB := n6_; clear n0_ n1_ n2_ n3_ n4_ n5_ n6_; clear hb ho170) | ((with_reducible refine gate_callee (f := 89) rfl ?_); refine goesL_ (some 81) rfl rfl Try.func89 (by kernel_rfl) rfl #[.pointer (some ⟨g226, 0, none⟩), .int .i64 8] rfl (by (try simp only [List.map_toArray, List.map_cons, List.map_nil]); first | done | rfl | (simp only [List.length_drop, List.length_take]; rfl)) ?_; (with_reducible refine (spec_l1Rd_pick.calls kj64 g226 t224 x227001_64 8 t259 t260 w _ ?side1 ?side2 A97.out).mono ?_); (case side1 => repeat (first | (with_reducible first | exact HI226.out | apply IsS145.alloc | apply IsS145.drewN | apply IsS145.drew | apply IsS145.set_1 | refine IsS145.far ?_ NB226_222.out _ | refine IsS145.far ?_ NB226_223.out _ | refine IsS145.far ?_ NB226_237.out _ | refine IsS145.far ?_ NB226_246.out _) | exact HI226.out)); (case side2 => repeat (first | (with_reducible first | exact HB.out | apply wA | apply wN | apply wD | refine wS ?_ (IsS145.ge HI226.out) | refine wS ?_ GE222.out | refine wS ?_ GE223.out | refine wS ?_ GE237.out | refine wS ?_ GE246.out) | exact HB.out)); rintro e w171 ⟨rfl, hi, hb, hk⟩; refine ⟨_, rfl, ?_⟩; have n0_ := mk0 (KeepBut.blk hk (g' := gb222) (o := .cells #[.int .i64 0, .int .i64 0, .string (⟨#[]⟩ : ByteArray)] 34 (0, 0)) (by (with_reducible repeat (first | apply bN | apply bD | apply bA)); exact BK222.out) NB222_226.out (by simp)); have n1_ := mk0 (KeepBut.blk hk (g' := gb223) (o := .cells #[.int .i64 0, .int .i64 0, .string (⟨#[]⟩ : ByteArray)] 34 (0, 0)) (by (with_reducible repeat (first | apply bN | apply bD | apply bA)); exact BK223.out) NB223_226.out (by simp)); have n2_ := mk0 (KeepBut.blk hk (g' := gb237) (o := .cells #[.int .i64 t233, .int .i64 t234, .string t235] 34 (0, 0)) (by (with_reducible repeat (first | apply bN | apply bD | apply bA)); exact BK237.out) NB237_226.out (by simp)); have n3_ := mk0 (KeepBut.blk hk (g' := gb246) (o := .cells #[.int .i64 t242, .int .i64 x247001_53, .string t244] 34 (0, 0)) (by (with_reducible repeat (first | apply bN | apply bD | apply bA)); exact BK246.out) NB246_226.out (by simp)); have n4_ := mk0 (Kd.R_mono (Kd.R_keep (IsS145.apart (show IsS145 w _ g226 t224 x227001_64 from by repeat (first | (with_reducible first | exact HI226.out | apply IsS145.alloc | apply IsS145.drewN | apply IsS145.drew | apply IsS145.set_1 | refine IsS145.far ?_ NB226_222.out _ | refine IsS145.far ?_ NB226_223.out _ | refine IsS145.far ?_ NB226_237.out _ | refine IsS145.far ?_ NB226_246.out _) | exact HI226.out)) (by (with_reducible repeat (first | apply Kd.R_alloc | apply Kd.R_drewN | apply Kd.R_drew)); exact HO258.out) (by decide)) hk (fun _ h => h.2)) (fun _ h => h.1)); have n5_ := mk0 (hb); have n6_ := mk0 (hi); clear BK222; clear BK223; clear BK237; clear BK246; clear HO258; clear HB; clear HI226; have BK222 := n0_; have BK223 := n1_; have BK237 := n2_; have BK246 := n3_; have HO258 := n4_; have HB := n5_; have HI226 := n6_; clear n0_ n1_ n2_ n3_ n4_ n5_ n6_; (try clear hb); (try clear hb2); (try clear hk); (try clear hi); obtain ⟨Ao172, co172, eo172⟩ := Kd.R_slice HO258.out; subst eo172; have p261 : 0 ≤ (t259 : Int) := of_decide_eq_true (by first | (with_reducible assumption) | assumption); have q261 : t259 < (y256.length : Int) := of_decide_eq_true (by first | (with_reducible assumption) | assumption); obtain ⟨ad261, e261, hx261_0⟩ := Kd.at_int (Kd.R_reads' HO258.out).2.2 t259 p261 q261; cases e261; replace p261 := eq_true p261; replace q261 := eq_true q261; have hnb173 := NB246_222.out; have hnc173 := NB222_246.out; have hnb174 := NB246_223.out; have hnc174 := NB223_246.out; have hnb175 := NB246_237.out; have hnc175 := NB237_246.out; have hnb176 := NB246_226.out; have hnc176 := NB226_246.out; have hcz177_0 : w171.cell? ⟨gb246, 0, none⟩ = some (.int .i64 t242) := (bC BK246.out 0).trans rfl; have hcz177_1 : w171.cell? ⟨gb246, 1, none⟩ = some (.int .i64 x247001_53) := (bC BK246.out 1).trans rfl; have hcz177_2 : w171.cell? ⟨gb246, 2, none⟩ = some (.string t244) := (bC BK246.out 2).trans rfl; have hfz177_0 := bF BK246.out 0; have hfz177_1 := bF BK246.out 1; have hfz177_2 := bF BK246.out 2))
              have n0_ : Aside0 (Kd.R (Kd.int .i64) 2 (w171.setCell ⟨gb246, 1, none⟩ (.int .i64 (rd y256 t259))) w.heap.size (fun _ => True) (.slice (some ad261) y256.length co172) y256) := ⟨by (with_reducible repeat (first | apply Kd.R_alloc | apply Kd.R_drewN | apply Kd.R_drew)); exact Kd.R_mono (Kd.R_far (p := ⟨gb246, 1, none⟩) (Kd.R_types HO258.out BK246.out (by decide)) (fun _ hk => hk.2) (.int .i64 (rd y256 t259))) (fun _ hk => trivial)⟩
              have n1_ : Aside0 ((w171.setCell ⟨gb246, 1, none⟩ (.int .i64 (rd y256 t259))).heap[gb222]? = some (.cells #[.int .i64 0, .int .i64 0, .string (⟨#[]⟩ : ByteArray)] 34 (0, 0))) := ⟨by (with_reducible repeat (first | apply bN | apply bD | apply bA)); refine blk_far ?_ NB222_246.out _; (with_reducible repeat (first | apply bN | apply bD | apply bA)); exact BK222.out⟩
              have n2_ : Aside0 ((w171.setCell ⟨gb246, 1, none⟩ (.int .i64 (rd y256 t259))).heap[gb223]? = some (.cells #[.int .i64 0, .int .i64 0, .string (⟨#[]⟩ : ByteArray)] 34 (0, 0))) := ⟨by (with_reducible repeat (first | apply bN | apply bD | apply bA)); refine blk_far ?_ NB223_246.out _; (with_reducible repeat (first | apply bN | apply bD | apply bA)); exact BK223.out⟩
              have n3_ : Aside0 ((w171.setCell ⟨gb246, 1, none⟩ (.int .i64 (rd y256 t259))).heap[gb237]? = some (.cells #[.int .i64 t233, .int .i64 t234, .string t235] 34 (0, 0))) := ⟨by (with_reducible repeat (first | apply bN | apply bD | apply bA)); refine blk_far ?_ NB237_246.out _; (with_reducible repeat (first | apply bN | apply bD | apply bA)); exact BK237.out⟩
              have n4_ : Aside0 ((w171.setCell ⟨gb246, 1, none⟩ (.int .i64 (rd y256 t259))).heap[gb246]? = some (.cells #[.int .i64 t242, .int .i64 (rd y256 t259), .string t244] 34 (0, 0))) := ⟨by (with_reducible repeat (first | apply bN | apply bD | apply bA)); refine blk_put (cs := #[.int .i64 t242, .int .i64 x247001_53, .string t244]) ?_ 1 _ rfl; (with_reducible repeat (first | apply bN | apply bD | apply bA)); exact BK246.out⟩
              have n5_ : Aside0 (IsS145 w (w171.setCell ⟨gb246, 1, none⟩ (.int .i64 (rd y256 t259))) g226 t224 t260) := ⟨by repeat (first | (with_reducible first | exact HI226.out | apply IsS145.alloc | apply IsS145.drewN | apply IsS145.drew | apply IsS145.set_1 | refine IsS145.far ?_ NB226_222.out _ | refine IsS145.far ?_ NB226_223.out _ | refine IsS145.far ?_ NB226_237.out _ | refine IsS145.far ?_ NB226_246.out _) | exact HI226.out)⟩
              have n6_ : Aside0 (Below w.heap.size w (w171.setCell ⟨gb246, 1, none⟩ (.int .i64 (rd y256 t259)))) := ⟨by repeat (first | (with_reducible first | exact HB.out | apply wA | apply wN | apply wD | refine wS ?_ (IsS145.ge HI226.out) | refine wS ?_ GE222.out | refine wS ?_ GE223.out | refine wS ?_ GE237.out | refine wS ?_ GE246.out) | exact HB.out)⟩
              (try clear HO258)
              (try clear BK222)
              (try clear BK223)
              (try clear BK237)
              (try clear BK246)
              (try clear HI226)
              (try clear HB)
              generalize (w171.setCell ⟨gb246, 1, none⟩ (.int .i64 (rd y256 t259))) = w178 at n0_ n1_ n2_ n3_ n4_ n5_ n6_ ⊢
              have HO258 := n0_
              have BK222 := n1_
              have BK223 := n2_
              have BK237 := n3_
              have BK246 := n4_
              have HI226 := n5_
              have HB := n6_
              clear n0_ n1_ n2_ n3_ n4_ n5_ n6_
              have n0_ := mk0 (Kd.R_drew HO258.out)
              have n1_ := mk0 (bD BK222.out)
              have n2_ := mk0 (bD BK223.out)
              have n3_ := mk0 (bD BK237.out)
              have n4_ := mk0 (bD BK246.out)
              have n5_ := mk0 (IsS145.drew HI226.out)
              have n6_ := mk0 (wD HB.out)
              clear HO258
              clear BK222
              clear BK223
              clear BK237
              clear BK246
              clear HI226
              clear HB
              have HO258 := n0_
              have BK222 := n1_
              have BK223 := n2_
              have BK237 := n3_
              have BK246 := n4_
              have HI226 := n5_
              have HB := n6_
              clear n0_ n1_ n2_ n3_ n4_ n5_ n6_
              refine start_ (n := 7) (S := fun w' => w'.cell? ⟨gb246, 0, none⟩ = some (.int .i64 t242) ∧ w'.cell? ⟨gb246, 1, none⟩ = some (.int .i64 (rd y256 t259)) ∧ w'.cell? ⟨gb246, 2, none⟩ = some (.string t244)) (ds := []) #[false, false, false, false, false, false, false] (by kernel_rfl) rfl rfl ⟨(bC BK246.out 0).trans rfl, (bC BK246.out 1).trans rfl, (bC BK246.out 2).trans rfl⟩ (fun hHeld => ?_)
              generalize w178.drew = w179 at HO258 BK222 BK223 BK237 BK246 HI226 HB hHeld ⊢
              refine pure_ (i := 0) (N := some 85) (v := ?_) (a' := ?_) #[true, false, false, false, false, false, false] rfl rfl (by kernel_rfl) (fun _ _ _ h => h) (Or.inl ⟨by rfl, ?_⟩) ?_ ?_
              rotate_left
              · intro w'
                go_simp
                with_reducible rfl
              rotate_left
              · simp only [Act.put, List.setIfInBounds_toArray, List.set_cons_zero, List.set_cons_succ, i64_w, i32_w]
                rfl
              refine pure_ (i := 2) (N := some 87) (v := ?_) (a' := ?_) #[true, false, true, false, false, false, false] rfl rfl (by kernel_rfl) (fun _ _ _ h => h) (Or.inl ⟨by rfl, ?_⟩) ?_ ?_
              rotate_left
              · intro w'
                go_simp
                with_reducible rfl
              rotate_left
              · simp only [Act.put, List.setIfInBounds_toArray, List.set_cons_zero, List.set_cons_succ, i64_w, i32_w]
                rfl
              refine take_ (i := 1) (N := some 86) (v := ?_) (a' := ?_) #[true, true, true, false, false, false, false] rfl rfl (by kernel_rfl) (fun _ _ _ h => h) (Or.inl ⟨by rfl, ?_⟩) hHeld ?_ ?_
              rotate_left
              · rintro w' ⟨s0, s1, s2⟩
                go_simp
                with_reducible rfl
              rotate_left
              · simp only [Act.put, List.setIfInBounds_toArray, List.set_cons_zero, List.set_cons_succ, i64_w, i32_w]
                rfl
              refine one_ (i := 3) (N := some 88) #[true, true, true, true, false, false, false] rfl rfl (by kernel_rfl) (by decide) (fun K hK => ?_)
              refine goes_ Try.func91 (by kernel_rfl) rfl #[.int .i64 x7_18] (by rfl) rfl rfl (by (try simp only [List.map_toArray, List.map_cons, List.map_nil]); first | done | rfl | (simp only [List.length_drop, List.length_take]; rfl)) ?_
              with_reducible refine (spec_l1Max.calls kj64 x7_18 t262 _ A100.out).mono ?_
              rintro e w' ⟨rfl, ⟨nd, rfl⟩⟩
              refine ⟨_, rfl, ?_⟩
              refine hK.out _ _ ⟨(bC BK246.out 0).trans rfl, (bC BK246.out 1).trans rfl, (bC BK246.out 2).trans rfl⟩ (fun hHeld => ?_)
              clear hK K
              refine norm_ (a' := ?_) ?_ ?_
              rotate_left
              · show Act.put _ (some 88) _ = _
                simp only [Act.put, List.setIfInBounds_toArray, List.set_cons_zero, List.set_cons_succ, i64_w, i32_w]
                rfl
              refine pure_ (i := 4) (N := some 89) (v := ?_) (a' := ?_) #[true, true, true, true, true, false, false] rfl rfl (by kernel_rfl) (fun _ _ _ h => h) (Or.inl ⟨by rfl, ?_⟩) ?_ ?_
              rotate_left
              · intro w'
                go_simp
                with_reducible rfl
              rotate_left
              · simp only [Act.put, List.setIfInBounds_toArray, List.set_cons_zero, List.set_cons_succ, i64_w, i32_w]
                rfl
              refine pure_ (i := 5) (N := some 90) (v := ?_) (a' := ?_) #[true, true, true, true, true, true, false] rfl rfl (by kernel_rfl) (fun _ _ _ h => h) (Or.inl ⟨by rfl, ?_⟩) ?_ ?_
              rotate_left
              · intro w'
                go_simp
                with_reducible rfl
              rotate_left
              · simp only [Act.put, List.setIfInBounds_toArray, List.set_cons_zero, List.set_cons_succ, i64_w, i32_w]
                rfl
              refine pure_ (i := 6) (N := some 91) (v := ?_) (a' := ?_) #[true, true, true, true, true, true, true] rfl rfl (by kernel_rfl) (fun _ _ _ h => h) (Or.inl ⟨by rfl, ?_⟩) ?_ ?_
              rotate_left
              · intro w'
                go_simp
                with_reducible rfl
              rotate_left
              · simp only [Act.put, List.setIfInBounds_toArray, List.set_cons_zero, List.set_cons_succ, i64_w, i32_w]
                rfl
              refine done_ (by kernel_rfl) ?_
              try go_wp2_with (first | ((with_reducible refine gate_dst (N := 93) rfl ?_); refine Kd.R_lit (Kd.int .i64) _ 2 ?hg (N := 93) ?hd (xs := ([1, 5, 100] : List Int)) (inner := [.int .i64 1, .int .i64 5, .int .i64 100]) (ok := fun _ => True) (okp := fun _ => True) ?hr ?hp (fun _ hk => hk) trivial (Below.refl _ _) (Nat.le_refl _) (by simp) ?_; (case hd => rfl); (case hg => rfl); (case hr => first | (go_simp; done) | (go_simp; rfl)); (case hp => exact (Reps.one (show Kd.M (Kd.int .i64) _ _ _ 1 [.int .i64 1] from rfl) (Reps.one (show Kd.M (Kd.int .i64) _ _ _ 5 [.int .i64 5] from rfl) (Reps.one (show Kd.M (Kd.int .i64) _ _ _ 100 [.int .i64 100] from rfl) (Reps.none _ _))))); intro v270 w180 ho181 hb hg_ hnew_; clear hg_ hnew_; (first | rw [← Ny269.out] at ho181 | (simp only [Int.reduceToNat] at ho181; rw [← Ny269.out] at ho181)); have n0_ := mk0 (Kd.R_elder' (by (with_reducible repeat (first | apply Kd.R_alloc | apply Kd.R_drewN | apply Kd.R_drew)); exact HO258.out) (Kd.R_base ho181) hb); have n1_ := mk0 (Kd.R_lower (Kd.R_new' ho181 (Kd.R_lt (by (with_reducible repeat (first | apply Kd.R_alloc | apply Kd.R_drewN | apply Kd.R_drew)); exact HO258.out))) (below_size (by repeat (first | (with_reducible first | exact HB.out | apply wA | apply wN | apply wD | refine wS ?_ (IsS145.ge HI226.out) | refine wS ?_ GE222.out | refine wS ?_ GE223.out | refine wS ?_ GE237.out | refine wS ?_ GE246.out) | exact HB.out)))); have n2_ := mk0 (bB (g := gb222) (o := .cells #[.int .i64 0, .int .i64 0, .string (⟨#[]⟩ : ByteArray)] 34 (0, 0)) (by (with_reducible repeat (first | apply bN | apply bD | apply bA)); exact BK222.out) hb); have n3_ := mk0 (bB (g := gb223) (o := .cells #[.int .i64 0, .int .i64 0, .string (⟨#[]⟩ : ByteArray)] 34 (0, 0)) (by (with_reducible repeat (first | apply bN | apply bD | apply bA)); exact BK223.out) hb); have n4_ := mk0 (bB (g := gb237) (o := .cells #[.int .i64 t233, .int .i64 t234, .string t235] 34 (0, 0)) (by (with_reducible repeat (first | apply bN | apply bD | apply bA)); exact BK237.out) hb); have n5_ := mk0 (bB (g := gb246) (o := .cells #[.int .i64 t242, .int .i64 (rd y256 t259), .string t244] 34 (0, 0)) (by (with_reducible repeat (first | apply bN | apply bD | apply bA)); exact BK246.out) hb); have n6_ := mk0 (IsS145.below (by repeat (first | (with_reducible first | exact HI226.out | apply IsS145.alloc | apply IsS145.drewN | apply IsS145.drew | apply IsS145.set_1 | refine IsS145.far ?_ NB226_222.out _ | refine IsS145.far ?_ NB226_223.out _ | refine IsS145.far ?_ NB226_237.out _ | refine IsS145.far ?_ NB226_246.out _) | exact HI226.out)) hb); have n7_ := mk0 (below_step (by repeat (first | (with_reducible first | exact HB.out | apply wA | apply wN | apply wD | refine wS ?_ (IsS145.ge HI226.out) | refine wS ?_ GE222.out | refine wS ?_ GE223.out | refine wS ?_ GE237.out | refine wS ?_ GE246.out) | exact HB.out)) hb); clear HO258; clear BK222; clear BK223; clear BK237; clear BK246; clear HI226; clear HB; have HO258 := n0_; have HO271 := n1_; have BK222 := n2_; have BK223 := n3_; have BK237 := n4_; have BK246 := n5_; have HI226 := n6_; have HB := n7_; clear n0_ n1_ n2_ n3_ n4_ n5_ n6_ n7_; clear hb ho181) | ((with_reducible refine gate_callee (f := 89) rfl ?_); refine goesL_ (some 95) rfl rfl Try.func89 (by kernel_rfl) rfl #[.pointer (some ⟨g226, 0, none⟩), .int .i64 3] rfl (by (try simp only [List.map_toArray, List.map_cons, List.map_nil]); first | done | rfl | (simp only [List.length_drop, List.length_take]; rfl)) ?_; (with_reducible refine (spec_l1Rd_pick.calls kj64 g226 t224 t260 3 t272 t273 w _ ?side1 ?side2 A146.out).mono ?_); (case side1 => repeat (first | (with_reducible first | exact HI226.out | apply IsS145.alloc | apply IsS145.drewN | apply IsS145.drew | apply IsS145.set_1 | refine IsS145.far ?_ NB226_222.out _ | refine IsS145.far ?_ NB226_223.out _ | refine IsS145.far ?_ NB226_237.out _ | refine IsS145.far ?_ NB226_246.out _) | exact HI226.out)); (case side2 => repeat (first | (with_reducible first | exact HB.out | apply wA | apply wN | apply wD | refine wS ?_ (IsS145.ge HI226.out) | refine wS ?_ GE222.out | refine wS ?_ GE223.out | refine wS ?_ GE237.out | refine wS ?_ GE246.out) | exact HB.out)); rintro e w182 ⟨rfl, hi, hb, hk⟩; refine ⟨_, rfl, ?_⟩; have n0_ := mk0 (KeepBut.blk hk (g' := gb222) (o := .cells #[.int .i64 0, .int .i64 0, .string (⟨#[]⟩ : ByteArray)] 34 (0, 0)) (by (with_reducible repeat (first | apply bN | apply bD | apply bA)); exact BK222.out) NB222_226.out (by simp)); have n1_ := mk0 (KeepBut.blk hk (g' := gb223) (o := .cells #[.int .i64 0, .int .i64 0, .string (⟨#[]⟩ : ByteArray)] 34 (0, 0)) (by (with_reducible repeat (first | apply bN | apply bD | apply bA)); exact BK223.out) NB223_226.out (by simp)); have n2_ := mk0 (KeepBut.blk hk (g' := gb237) (o := .cells #[.int .i64 t233, .int .i64 t234, .string t235] 34 (0, 0)) (by (with_reducible repeat (first | apply bN | apply bD | apply bA)); exact BK237.out) NB237_226.out (by simp)); have n3_ := mk0 (KeepBut.blk hk (g' := gb246) (o := .cells #[.int .i64 t242, .int .i64 (rd y256 t259), .string t244] 34 (0, 0)) (by (with_reducible repeat (first | apply bN | apply bD | apply bA)); exact BK246.out) NB246_226.out (by simp)); have n4_ := mk0 (Kd.R_mono (Kd.R_keep (IsS145.apart (show IsS145 w _ g226 t224 t260 from by repeat (first | (with_reducible first | exact HI226.out | apply IsS145.alloc | apply IsS145.drewN | apply IsS145.drew | apply IsS145.set_1 | refine IsS145.far ?_ NB226_222.out _ | refine IsS145.far ?_ NB226_223.out _ | refine IsS145.far ?_ NB226_237.out _ | refine IsS145.far ?_ NB226_246.out _) | exact HI226.out)) (by (with_reducible repeat (first | apply Kd.R_alloc | apply Kd.R_drewN | apply Kd.R_drew)); exact HO258.out) (by decide)) hk (fun _ h => h.2)) (fun _ h => h.1)); have n5_ := mk0 (Kd.R_mono (Kd.R_keep (IsS145.apart (show IsS145 w _ g226 t224 t260 from by repeat (first | (with_reducible first | exact HI226.out | apply IsS145.alloc | apply IsS145.drewN | apply IsS145.drew | apply IsS145.set_1 | refine IsS145.far ?_ NB226_222.out _ | refine IsS145.far ?_ NB226_223.out _ | refine IsS145.far ?_ NB226_237.out _ | refine IsS145.far ?_ NB226_246.out _) | exact HI226.out)) (by (with_reducible repeat (first | apply Kd.R_alloc | apply Kd.R_drewN | apply Kd.R_drew)); exact HO271.out) (by decide)) hk (fun _ h => h.2)) (fun _ h => h.1)); have n6_ := mk0 (hb); have n7_ := mk0 (hi); clear BK222; clear BK223; clear BK237; clear BK246; clear HO258; clear HO271; clear HB; clear HI226; have BK222 := n0_; have BK223 := n1_; have BK237 := n2_; have BK246 := n3_; have HO258 := n4_; have HO271 := n5_; have HB := n6_; have HI226 := n7_; clear n0_ n1_ n2_ n3_ n4_ n5_ n6_ n7_; (try clear hb); (try clear hb2); (try clear hk); (try clear hi); obtain ⟨Ao183, co183, eo183⟩ := Kd.R_slice HO271.out; subst eo183; have p274 : 0 ≤ (t272 : Int) := of_decide_eq_true (by first | (with_reducible assumption) | assumption); have q274 : t272 < (y269.length : Int) := of_decide_eq_true (by first | (with_reducible assumption) | assumption); obtain ⟨ad274, e274, hx274_0⟩ := Kd.at_int (Kd.R_reads' HO271.out).2.2 t272 p274 q274; cases e274; replace p274 := eq_true p274; replace q274 := eq_true q274; have hnb184 := NB237_222.out; have hnc184 := NB222_237.out; have hnb185 := NB237_223.out; have hnc185 := NB223_237.out; have hnb186 := NB237_226.out; have hnc186 := NB226_237.out; have hcz187_0 : w182.cell? ⟨gb237, 0, none⟩ = some (.int .i64 t233) := (bC BK237.out 0).trans rfl; have hcz187_1 : w182.cell? ⟨gb237, 1, none⟩ = some (.int .i64 t234) := (bC BK237.out 1).trans rfl; have hcz187_2 : w182.cell? ⟨gb237, 2, none⟩ = some (.string t235) := (bC BK237.out 2).trans rfl; have hfz187_0 := bF BK237.out 0; have hfz187_1 := bF BK237.out 1; have hfz187_2 := bF BK237.out 2))
              go_meet
              case rel => exact ⟨_, (t273), (rd y269 t272), (rd y256 t259), H', ⟨by have := HJ4.out; have := HJ18.out; have := HJ30.out; have := HJ53.out; have := HJ64.out; first | omega | exact Nat.le_refl _⟩, ⟨by (with_reducible repeat (first | apply bN | apply bD | apply bA)); refine blk_far ?_ NB222_237.out _; (with_reducible repeat (first | apply bN | apply bD | apply bA)); exact BK222.out⟩, ⟨by (with_reducible repeat (first | apply bN | apply bD | apply bA)); refine blk_far ?_ NB223_237.out _; (with_reducible repeat (first | apply bN | apply bD | apply bA)); exact BK223.out⟩, ⟨by (with_reducible repeat (first | apply bN | apply bD | apply bA)); refine blk_put (cs := #[.int .i64 t233, .int .i64 t234, .string t235]) ?_ 1 _ rfl; (with_reducible repeat (first | apply bN | apply bD | apply bA)); exact BK237.out⟩, ⟨by (with_reducible repeat (first | apply bN | apply bD | apply bA)); refine blk_far ?_ NB246_237.out _; (with_reducible repeat (first | apply bN | apply bD | apply bA)); exact BK246.out⟩, ⟨by repeat (first | (with_reducible first | exact HI226.out | apply IsS145.alloc | apply IsS145.drewN | apply IsS145.drew | apply IsS145.set_1 | refine IsS145.far ?_ NB226_222.out _ | refine IsS145.far ?_ NB226_223.out _ | refine IsS145.far ?_ NB226_237.out _ | refine IsS145.far ?_ NB226_246.out _) | exact HI226.out)⟩, ⟨by repeat (first | (with_reducible first | exact HB.out | apply wA | apply wN | apply wD | refine wS ?_ (IsS145.ge HI226.out) | refine wS ?_ GE222.out | refine wS ?_ GE223.out | refine wS ?_ GE237.out | refine wS ?_ GE246.out) | exact HB.out)⟩⟩
            rw [if_neg c148] at H
            exact absurd H (by simp)
          rw [if_neg c147] at H
          exact absurd H (by simp)
        rw [if_neg c99] at H
        exact absurd H (by simp)
      rw [if_neg c98] at H
      exact absurd H (by simp)
    replace c96 := Bool.eq_false_iff.mpr c96
    subst c96
    have H1 : (spec_DrawBinary.j5 kj64 (wrap64 (1 + t227)) t224 x227001_64 t233 t234 t235 t242 x247001_53 t244) = some (r1, r2, r3, r4, r5, r6, r7) := by rw [if_neg (show ¬ (false = true) by decide)] at H; exact H
    clear H
    have H := H1
    clear H1
    have H' := mk0 H
    clear H
    go_wp2
    go_meet
    case rel => exact ⟨_, (x227001_64), (t234), (x247001_53), H', ⟨by have := HJ4.out; have := HJ18.out; have := HJ30.out; have := HJ53.out; have := HJ64.out; first | omega | exact Nat.le_refl _⟩, ⟨by (with_reducible repeat (first | apply bN | apply bD | apply bA)); exact BK222.out⟩, ⟨by (with_reducible repeat (first | apply bN | apply bD | apply bA)); exact BK223.out⟩, ⟨by (with_reducible repeat (first | apply bN | apply bD | apply bA)); exact BK237.out⟩, ⟨by (with_reducible repeat (first | apply bN | apply bD | apply bA)); exact BK246.out⟩, ⟨by repeat (first | (with_reducible first | exact HI226.out | apply IsS145.alloc | apply IsS145.drewN | apply IsS145.drew | apply IsS145.set_1 | refine IsS145.far ?_ NB226_222.out _ | refine IsS145.far ?_ NB226_223.out _ | refine IsS145.far ?_ NB226_237.out _ | refine IsS145.far ?_ NB226_246.out _) | exact HI226.out)⟩, ⟨by repeat (first | (with_reducible first | exact HB.out | apply wA | apply wN | apply wD | refine wS ?_ (IsS145.ge HI226.out) | refine wS ?_ GE222.out | refine wS ?_ GE223.out | refine wS ?_ GE237.out | refine wS ?_ GE246.out) | exact HB.out)⟩⟩
  clear HC95
  try clear c1
  try clear p2
  try clear q2
  try clear hx2
  try clear p6
  try clear c8
  try clear c9
  try clear c10
  try clear c11
  try clear c12
  try clear c13
  try clear c14
  try clear c15
  try clear c16
  try clear c17
  try clear c18
  try clear p26
  try clear q26
  try clear hx26
  try clear p27
  try clear q27
  try clear hx27
  try clear p64
  try clear c89
  try clear c91
  try clear c96
  try clear c98
  try clear c98b0
  try clear c99
  try clear c99b0
  try clear c101
  try clear c101b0
  try clear c103
  try clear c103b0
  try clear c104
  try clear c104b0
  try clear c105
  try clear c105b0
  try clear c110
  try clear c111
  try clear c112
  try clear c113
  try clear c122
  try clear c123
  try clear c124
  try clear c130
  try clear c131
  try clear c132
  try clear c133
  try clear c142
  try clear c143
  try clear c144
  try clear c147
  try clear c147b0
  try clear c148
  try clear c148b0
  try clear c149
  try clear c149b0
  try clear c154
  try clear c155
  try clear c156
  try clear c157
  try clear c165
  try clear c166
  try clear c167
  try clear c173
  try clear c174
  try clear c175
  try clear c176
  try clear c184
  try clear c185
  try clear c186
  try clear hcz114_0
  try clear hcz114_1
  try clear hcz114_2
  try clear hcz117_0
  try clear hcz117_1
  try clear hcz117_2
  try clear hcz125_0
  try clear hcz125_1
  try clear hcz125_2
  try clear hcz134_0
  try clear hcz134_1
  try clear hcz134_2
  try clear hcz137_0
  try clear hcz137_1
  try clear hcz137_2
  try clear hcz145_0
  try clear hcz145_1
  try clear hcz145_2
  try clear hcz158_0
  try clear hcz158_1
  try clear hcz158_2
  try clear hcz168_0
  try clear hcz168_1
  try clear hcz168_2
  try clear hcz177_0
  try clear hcz177_1
  try clear hcz177_2
  try clear hcz187_0
  try clear hcz187_1
  try clear hcz187_2
  try clear hfz114_0
  try clear hfz114_1
  try clear hfz114_2
  try clear hfz117_0
  try clear hfz117_1
  try clear hfz117_2
  try clear hfz125_0
  try clear hfz125_1
  try clear hfz125_2
  try clear hfz134_0
  try clear hfz134_1
  try clear hfz134_2
  try clear hfz137_0
  try clear hfz137_1
  try clear hfz137_2
  try clear hfz145_0
  try clear hfz145_1
  try clear hfz145_2
  try clear hfz158_0
  try clear hfz158_1
  try clear hfz158_2
  try clear hfz168_0
  try clear hfz168_1
  try clear hfz168_2
  try clear hfz177_0
  try clear hfz177_1
  try clear hfz177_2
  try clear hfz187_0
  try clear hfz187_1
  try clear hfz187_2
  try clear hfz89_0
  try clear hfz89_1
  try clear hfz89_2
  try clear hfz94_0
  try clear hfz94_1
  try clear hfz94_2
  try clear hx261_0
  try clear hx268_0
  try clear hx274_0
  try clear p2
  try clear p261
  try clear p268
  try clear p274
  try clear p6
  try clear p64
  try clear q261
  try clear q268
  try clear q274
  obtain ⟨kq, x227001_94, x238001_94, x247001_94, HA, HJ94, BK222, BK223, BK237, BK246, HI226, HB⟩ := hcut
  cases kq with
  | zero => exact absurd HA.out (by simp [spec_DrawBinary.j5])
  | succ kj94 =>
  have H := HA.out
  clear HA
  simp only [spec_DrawBinary.j5] at H
  have HC188 := mk0 H
  clear H
  go_upto_region 21 with (fail)
  go_cut [111] (fun v111 wc => ∃ (kq : Nat) (x111_187 : Bool) (x227001_187 : Int), v111 = .bool x111_187 ∧ Aside0 (spec_DrawBinary.j6 kq (wrap64 (1 + t227)) x111_187 t224 x227001_187 t233 x238001_94 t235 t242 x247001_94 t244 = some (r1, r2, r3, r4, r5, r6, r7)) ∧ Aside0 (kq ≤ kj94) ∧ Aside0 (wc.heap[gb222]? = some (.cells #[.int .i64 0, .int .i64 0, .string (⟨#[]⟩ : ByteArray)] 34 (0, 0))) ∧ Aside0 (wc.heap[gb223]? = some (.cells #[.int .i64 0, .int .i64 0, .string (⟨#[]⟩ : ByteArray)] 34 (0, 0))) ∧ Aside0 (wc.heap[gb237]? = some (.cells #[.int .i64 t233, .int .i64 x238001_94, .string t235] 34 (0, 0))) ∧ Aside0 (wc.heap[gb246]? = some (.cells #[.int .i64 t242, .int .i64 x247001_94, .string t244] 34 (0, 0))) ∧ Aside0 (IsS145 w wc g226 t224 x227001_187) ∧ Aside0 (Below w.heap.size w wc))
  case first =>
    have H := HC188.out
    clear HC188
    by_cases c189 : (wrap64 (1 + t227)) ≤ 8
    · rw [if_pos c189] at H
      have c189b0 : decide ((wrap64 (1 + t227)) ≤ 8) = true := decide_eq_true c189
      clear c189
      (first | rw [c189b0] | (simp only [i64_w, i32_w]; rw [c189b0]) | rw [c189b4] | rw [c189b3] | skip)
      replace H := Option.bind_eq_some_iff.mp H
      obtain ⟨⟨t275, t276⟩, A1900, H⟩ := H
      replace H : (spec_DrawBinary.j6 kj94 (wrap64 (1 + t227)) (t275 == 0) t224 t276 t233 x238001_94 t235 t242 x247001_94 t244) = some (r1, r2, r3, r4, r5, r6, r7) := H
      have A190 := mk0 A1900
      clear A1900
      have H' := mk0 H
      clear H
      go_wp2_with (first | (go_at_call 89; (with_reducible refine (spec_l1Rd_pick.calls kj94 g226 t224 x227001_94 4 t275 t276 w _ ?side1 ?side2 A190.out).mono ?_); (case side1 => repeat (first | (with_reducible first | exact HI226.out | apply IsS145.alloc | apply IsS145.drewN | apply IsS145.drew | apply IsS145.set_1 | refine IsS145.far ?_ NB226_222.out _ | refine IsS145.far ?_ NB226_223.out _ | refine IsS145.far ?_ NB226_237.out _ | refine IsS145.far ?_ NB226_246.out _) | exact HI226.out)); (case side2 => repeat (first | (with_reducible first | exact HB.out | apply wA | apply wN | apply wD | refine wS ?_ (IsS145.ge HI226.out) | refine wS ?_ GE222.out | refine wS ?_ GE223.out | refine wS ?_ GE237.out | refine wS ?_ GE246.out) | exact HB.out)); rintro e w191 ⟨rfl, hi, hb, hk⟩; have n0_ := mk0 (KeepBut.blk hk (g' := gb222) (o := .cells #[.int .i64 0, .int .i64 0, .string (⟨#[]⟩ : ByteArray)] 34 (0, 0)) (by (with_reducible repeat (first | apply bN | apply bD | apply bA)); exact BK222.out) NB222_226.out (by simp)); have n1_ := mk0 (KeepBut.blk hk (g' := gb223) (o := .cells #[.int .i64 0, .int .i64 0, .string (⟨#[]⟩ : ByteArray)] 34 (0, 0)) (by (with_reducible repeat (first | apply bN | apply bD | apply bA)); exact BK223.out) NB223_226.out (by simp)); have n2_ := mk0 (KeepBut.blk hk (g' := gb237) (o := .cells #[.int .i64 t233, .int .i64 x238001_94, .string t235] 34 (0, 0)) (by (with_reducible repeat (first | apply bN | apply bD | apply bA)); exact BK237.out) NB237_226.out (by simp)); have n3_ := mk0 (KeepBut.blk hk (g' := gb246) (o := .cells #[.int .i64 t242, .int .i64 x247001_94, .string t244] 34 (0, 0)) (by (with_reducible repeat (first | apply bN | apply bD | apply bA)); exact BK246.out) NB246_226.out (by simp)); have n4_ := mk0 (hb); have n5_ := mk0 (hi); clear BK222; clear BK223; clear BK237; clear BK246; clear HB; clear HI226; have BK222 := n0_; have BK223 := n1_; have BK237 := n2_; have BK246 := n3_; have HB := n4_; have HI226 := n5_; clear n0_ n1_ n2_ n3_ n4_ n5_; (try clear hb); (try clear hb2); (try clear hk); (try clear hi)))
      go_meet
      case rel => exact ⟨_, ((t275 == 0)), (t276), (by first | rfl | (simp; done) | (simp [*]; done)), H', ⟨by have := HJ4.out; have := HJ18.out; have := HJ30.out; have := HJ53.out; have := HJ64.out; have := HJ94.out; first | omega | exact Nat.le_refl _⟩, ⟨by (with_reducible repeat (first | apply bN | apply bD | apply bA)); exact BK222.out⟩, ⟨by (with_reducible repeat (first | apply bN | apply bD | apply bA)); exact BK223.out⟩, ⟨by (with_reducible repeat (first | apply bN | apply bD | apply bA)); exact BK237.out⟩, ⟨by (with_reducible repeat (first | apply bN | apply bD | apply bA)); exact BK246.out⟩, ⟨by repeat (first | (with_reducible first | exact HI226.out | apply IsS145.alloc | apply IsS145.drewN | apply IsS145.drew | apply IsS145.set_1 | refine IsS145.far ?_ NB226_222.out _ | refine IsS145.far ?_ NB226_223.out _ | refine IsS145.far ?_ NB226_237.out _ | refine IsS145.far ?_ NB226_246.out _) | exact HI226.out)⟩, ⟨by repeat (first | (with_reducible first | exact HB.out | apply wA | apply wN | apply wD | refine wS ?_ (IsS145.ge HI226.out) | refine wS ?_ GE222.out | refine wS ?_ GE223.out | refine wS ?_ GE237.out | refine wS ?_ GE246.out) | exact HB.out)⟩⟩
    rw [if_neg c189] at H
    have c189b0 : decide ((wrap64 (1 + t227)) ≤ 8) = false := decide_eq_false c189
    clear c189
    (first | rw [c189b0] | (simp only [i64_w, i32_w]; rw [c189b0]) | rw [c189b4] | rw [c189b3] | skip)
    have H' := mk0 H
    clear H
    go_wp2
    go_meet
    case rel => exact ⟨_, (false), (x227001_94), (by first | rfl | (simp; done) | (simp [*]; done)), H', ⟨by have := HJ4.out; have := HJ18.out; have := HJ30.out; have := HJ53.out; have := HJ64.out; have := HJ94.out; first | omega | exact Nat.le_refl _⟩, ⟨by (with_reducible repeat (first | apply bN | apply bD | apply bA)); exact BK222.out⟩, ⟨by (with_reducible repeat (first | apply bN | apply bD | apply bA)); exact BK223.out⟩, ⟨by (with_reducible repeat (first | apply bN | apply bD | apply bA)); exact BK237.out⟩, ⟨by (with_reducible repeat (first | apply bN | apply bD | apply bA)); exact BK246.out⟩, ⟨by repeat (first | (with_reducible first | exact HI226.out | apply IsS145.alloc | apply IsS145.drewN | apply IsS145.drew | apply IsS145.set_1 | refine IsS145.far ?_ NB226_222.out _ | refine IsS145.far ?_ NB226_223.out _ | refine IsS145.far ?_ NB226_237.out _ | refine IsS145.far ?_ NB226_246.out _) | exact HI226.out)⟩, ⟨by repeat (first | (with_reducible first | exact HB.out | apply wA | apply wN | apply wD | refine wS ?_ (IsS145.ge HI226.out) | refine wS ?_ GE222.out | refine wS ?_ GE223.out | refine wS ?_ GE237.out | refine wS ?_ GE246.out) | exact HB.out)⟩⟩
  clear HC188
  try clear c1
  try clear p2
  try clear q2
  try clear hx2
  try clear p6
  try clear c8
  try clear c9
  try clear c10
  try clear c11
  try clear c12
  try clear c13
  try clear c14
  try clear c15
  try clear c16
  try clear c17
  try clear c18
  try clear p26
  try clear q26
  try clear hx26
  try clear p27
  try clear q27
  try clear hx27
  try clear p64
  try clear c89
  try clear c91
  try clear c96
  try clear c98
  try clear c98b0
  try clear c99
  try clear c99b0
  try clear c101
  try clear c101b0
  try clear c103
  try clear c103b0
  try clear c104
  try clear c104b0
  try clear c105
  try clear c105b0
  try clear c110
  try clear c111
  try clear c112
  try clear c113
  try clear c122
  try clear c123
  try clear c124
  try clear c130
  try clear c131
  try clear c132
  try clear c133
  try clear c142
  try clear c143
  try clear c144
  try clear c147
  try clear c147b0
  try clear c148
  try clear c148b0
  try clear c149
  try clear c149b0
  try clear c154
  try clear c155
  try clear c156
  try clear c157
  try clear c165
  try clear c166
  try clear c167
  try clear c173
  try clear c174
  try clear c175
  try clear c176
  try clear c184
  try clear c185
  try clear c186
  try clear c189
  try clear c189b0
  try clear hcz114_0
  try clear hcz114_1
  try clear hcz114_2
  try clear hcz117_0
  try clear hcz117_1
  try clear hcz117_2
  try clear hcz125_0
  try clear hcz125_1
  try clear hcz125_2
  try clear hcz134_0
  try clear hcz134_1
  try clear hcz134_2
  try clear hcz137_0
  try clear hcz137_1
  try clear hcz137_2
  try clear hcz145_0
  try clear hcz145_1
  try clear hcz145_2
  try clear hcz158_0
  try clear hcz158_1
  try clear hcz158_2
  try clear hcz168_0
  try clear hcz168_1
  try clear hcz168_2
  try clear hcz177_0
  try clear hcz177_1
  try clear hcz177_2
  try clear hcz187_0
  try clear hcz187_1
  try clear hcz187_2
  try clear hfz114_0
  try clear hfz114_1
  try clear hfz114_2
  try clear hfz117_0
  try clear hfz117_1
  try clear hfz117_2
  try clear hfz125_0
  try clear hfz125_1
  try clear hfz125_2
  try clear hfz134_0
  try clear hfz134_1
  try clear hfz134_2
  try clear hfz137_0
  try clear hfz137_1
  try clear hfz137_2
  try clear hfz145_0
  try clear hfz145_1
  try clear hfz145_2
  try clear hfz158_0
  try clear hfz158_1
  try clear hfz158_2
  try clear hfz168_0
  try clear hfz168_1
  try clear hfz168_2
  try clear hfz177_0
  try clear hfz177_1
  try clear hfz177_2
  try clear hfz187_0
  try clear hfz187_1
  try clear hfz187_2
  try clear hfz89_0
  try clear hfz89_1
  try clear hfz89_2
  try clear hfz94_0
  try clear hfz94_1
  try clear hfz94_2
  try clear hx261_0
  try clear hx268_0
  try clear hx274_0
  try clear p2
  try clear p26
  try clear p261
  try clear p268
  try clear p27
  try clear p274
  try clear p6
  try clear p64
  try clear q2
  try clear q26
  try clear q261
  try clear q268
  try clear q27
  try clear q274
  obtain ⟨kq, x111_187, x227001_187, rfl, HA, HJ187, BK222, BK223, BK237, BK246, HI226, HB⟩ := hcut
  cases kq with
  | zero => exact absurd HA.out (by simp [spec_DrawBinary.j6])
  | succ kj187 =>
  have H := HA.out
  clear HA
  simp only [spec_DrawBinary.j6] at H
  have HC192 := mk0 H
  clear H
  go_upto_if 111 with (fail)
  go_cut [] (fun wc => ∃ (kq : Nat) (x247000_191 : Int) (x247001_191 : Int) (x247002_191 : ByteArray), Aside0 (spec_DrawBinary.j7 kq (wrap64 (1 + t227)) t224 x227001_187 t233 x238001_94 t235 x247000_191 x247001_191 x247002_191 = some (r1, r2, r3, r4, r5, r6, r7)) ∧ Aside0 (kq ≤ kj187) ∧ Aside0 (wc.heap[gb222]? = some (.cells #[.int .i64 0, .int .i64 0, .string (⟨#[]⟩ : ByteArray)] 34 (0, 0))) ∧ Aside0 (wc.heap[gb223]? = some (.cells #[.int .i64 0, .int .i64 0, .string (⟨#[]⟩ : ByteArray)] 34 (0, 0))) ∧ Aside0 (wc.heap[gb237]? = some (.cells #[.int .i64 t233, .int .i64 x238001_94, .string t235] 34 (0, 0))) ∧ Aside0 (wc.heap[gb246]? = some (.cells #[.int .i64 x247000_191, .int .i64 x247001_191, .string x247002_191] 34 (0, 0))) ∧ Aside0 (IsS145 w wc g226 t224 x227001_187) ∧ Aside0 (Below w.heap.size w wc))
  case first =>
    have H := HC192.out
    clear HC192
    by_cases c193 : x111_187 = true
    · subst c193
      have H1 : (spec_DrawBinary.j7 kj187 (wrap64 (1 + t227)) t224 x227001_187 t233 x238001_94 t235 t233 x238001_94 t235) = some (r1, r2, r3, r4, r5, r6, r7) := by rw [if_pos rfl] at H; exact H
      clear H
      have H := H1
      clear H1
      have H' := mk0 H
      clear H
      have hnb194 := NB237_222.out
      have hnc194 := NB222_237.out
      have hnb195 := NB237_223.out
      have hnc195 := NB223_237.out
      have hnb196 := NB237_246.out
      have hnc196 := NB246_237.out
      have hnb197 := NB237_226.out
      have hnc197 := NB226_237.out
      have hcz198_0 : wc.cell? ⟨gb237, 0, none⟩ = some (.int .i64 t233) := (bC BK237.out 0).trans rfl
      have hcz198_1 : wc.cell? ⟨gb237, 1, none⟩ = some (.int .i64 x238001_94) := (bC BK237.out 1).trans rfl
      have hcz198_2 : wc.cell? ⟨gb237, 2, none⟩ = some (.string t235) := (bC BK237.out 2).trans rfl
      have hfz198_0 := bF BK237.out 0
      have hfz198_1 := bF BK237.out 1
      have hfz198_2 := bF BK237.out 2
      have hnb199 := NB246_222.out
      have hnc199 := NB222_246.out
      have hnb200 := NB246_223.out
      have hnc200 := NB223_246.out
      have hnb201 := NB246_226.out
      have hnc201 := NB226_246.out
      have hcz202_0 : wc.cell? ⟨gb246, 0, none⟩ = some (.int .i64 t242) := (bC BK246.out 0).trans rfl
      have hcz202_1 : wc.cell? ⟨gb246, 1, none⟩ = some (.int .i64 x247001_94) := (bC BK246.out 1).trans rfl
      have hcz202_2 : wc.cell? ⟨gb246, 2, none⟩ = some (.string t244) := (bC BK246.out 2).trans rfl
      have hfz202_0 := bF BK246.out 0
      have hfz202_1 := bF BK246.out 1
      have hfz202_2 := bF BK246.out 2
      go_wp2
      go_meet
      case rel => exact ⟨_, (t233), (x238001_94), (t235), H', ⟨by have := HJ4.out; have := HJ18.out; have := HJ30.out; have := HJ53.out; have := HJ64.out; have := HJ94.out; have := HJ187.out; first | omega | exact Nat.le_refl _⟩, ⟨by (with_reducible repeat (first | apply bN | apply bD | apply bA)); refine blk_far ?_ NB222_246.out _; (with_reducible repeat (first | apply bN | apply bD | apply bA)); refine blk_far ?_ NB222_246.out _; (with_reducible repeat (first | apply bN | apply bD | apply bA)); refine blk_far ?_ NB222_246.out _; (with_reducible repeat (first | apply bN | apply bD | apply bA)); exact BK222.out⟩, ⟨by (with_reducible repeat (first | apply bN | apply bD | apply bA)); refine blk_far ?_ NB223_246.out _; (with_reducible repeat (first | apply bN | apply bD | apply bA)); refine blk_far ?_ NB223_246.out _; (with_reducible repeat (first | apply bN | apply bD | apply bA)); refine blk_far ?_ NB223_246.out _; (with_reducible repeat (first | apply bN | apply bD | apply bA)); exact BK223.out⟩, ⟨by (with_reducible repeat (first | apply bN | apply bD | apply bA)); refine blk_far ?_ NB237_246.out _; (with_reducible repeat (first | apply bN | apply bD | apply bA)); refine blk_far ?_ NB237_246.out _; (with_reducible repeat (first | apply bN | apply bD | apply bA)); refine blk_far ?_ NB237_246.out _; (with_reducible repeat (first | apply bN | apply bD | apply bA)); exact BK237.out⟩, ⟨by (with_reducible repeat (first | apply bN | apply bD | apply bA)); refine blk_put (cs := #[.int .i64 t233, .int .i64 x238001_94, .string t244]) ?_ 2 _ rfl; (with_reducible repeat (first | apply bN | apply bD | apply bA)); refine blk_put (cs := #[.int .i64 t233, .int .i64 x247001_94, .string t244]) ?_ 1 _ rfl; (with_reducible repeat (first | apply bN | apply bD | apply bA)); refine blk_put (cs := #[.int .i64 t242, .int .i64 x247001_94, .string t244]) ?_ 0 _ rfl; (with_reducible repeat (first | apply bN | apply bD | apply bA)); exact BK246.out⟩, ⟨by repeat (first | (with_reducible first | exact HI226.out | apply IsS145.alloc | apply IsS145.drewN | apply IsS145.drew | apply IsS145.set_1 | refine IsS145.far ?_ NB226_222.out _ | refine IsS145.far ?_ NB226_223.out _ | refine IsS145.far ?_ NB226_237.out _ | refine IsS145.far ?_ NB226_246.out _) | exact HI226.out)⟩, ⟨by repeat (first | (with_reducible first | exact HB.out | apply wA | apply wN | apply wD | refine wS ?_ (IsS145.ge HI226.out) | refine wS ?_ GE222.out | refine wS ?_ GE223.out | refine wS ?_ GE237.out | refine wS ?_ GE246.out) | exact HB.out)⟩⟩
    replace c193 := Bool.eq_false_iff.mpr c193
    subst c193
    have H1 : (spec_DrawBinary.j7 kj187 (wrap64 (1 + t227)) t224 x227001_187 t233 x238001_94 t235 t242 x247001_94 t244) = some (r1, r2, r3, r4, r5, r6, r7) := by rw [if_neg (show ¬ (false = true) by decide)] at H; exact H
    clear H
    have H := H1
    clear H1
    have H' := mk0 H
    clear H
    go_wp2
    go_meet
    case rel => exact ⟨_, (t242), (x247001_94), (t244), H', ⟨by have := HJ4.out; have := HJ18.out; have := HJ30.out; have := HJ53.out; have := HJ64.out; have := HJ94.out; have := HJ187.out; first | omega | exact Nat.le_refl _⟩, ⟨by (with_reducible repeat (first | apply bN | apply bD | apply bA)); exact BK222.out⟩, ⟨by (with_reducible repeat (first | apply bN | apply bD | apply bA)); exact BK223.out⟩, ⟨by (with_reducible repeat (first | apply bN | apply bD | apply bA)); exact BK237.out⟩, ⟨by (with_reducible repeat (first | apply bN | apply bD | apply bA)); exact BK246.out⟩, ⟨by repeat (first | (with_reducible first | exact HI226.out | apply IsS145.alloc | apply IsS145.drewN | apply IsS145.drew | apply IsS145.set_1 | refine IsS145.far ?_ NB226_222.out _ | refine IsS145.far ?_ NB226_223.out _ | refine IsS145.far ?_ NB226_237.out _ | refine IsS145.far ?_ NB226_246.out _) | exact HI226.out)⟩, ⟨by repeat (first | (with_reducible first | exact HB.out | apply wA | apply wN | apply wD | refine wS ?_ (IsS145.ge HI226.out) | refine wS ?_ GE222.out | refine wS ?_ GE223.out | refine wS ?_ GE237.out | refine wS ?_ GE246.out) | exact HB.out)⟩⟩
  clear HC192
  try clear c1
  try clear c2
  try clear p2
  try clear q2
  try clear hx2
  try clear p6
  try clear c8
  try clear c9
  try clear c10
  try clear c11
  try clear c12
  try clear c13
  try clear c14
  try clear c15
  try clear c16
  try clear c17
  try clear c18
  try clear c19
  try clear c20
  try clear p26
  try clear q26
  try clear hx26
  try clear p27
  try clear q27
  try clear hx27
  try clear p64
  try clear c89
  try clear c91
  try clear c96
  try clear c98
  try clear c98b0
  try clear c99
  try clear c99b0
  try clear c101
  try clear c101b0
  try clear c103
  try clear c103b0
  try clear c104
  try clear c104b0
  try clear c105
  try clear c105b0
  try clear c110
  try clear c111
  try clear c112
  try clear c113
  try clear c122
  try clear c123
  try clear c124
  try clear c130
  try clear c131
  try clear c132
  try clear c133
  try clear c142
  try clear c143
  try clear c144
  try clear c147
  try clear c147b0
  try clear c148
  try clear c148b0
  try clear c149
  try clear c149b0
  try clear c154
  try clear c155
  try clear c156
  try clear c157
  try clear c165
  try clear c166
  try clear c167
  try clear c173
  try clear c174
  try clear c175
  try clear c176
  try clear c184
  try clear c185
  try clear c186
  try clear c189
  try clear c189b0
  try clear c193
  try clear c194
  try clear c195
  try clear c196
  try clear c197
  try clear c199
  try clear c200
  try clear c201
  try clear hcz114_0
  try clear hcz114_1
  try clear hcz114_2
  try clear hcz117_0
  try clear hcz117_1
  try clear hcz117_2
  try clear hcz125_0
  try clear hcz125_1
  try clear hcz125_2
  try clear hcz134_0
  try clear hcz134_1
  try clear hcz134_2
  try clear hcz137_0
  try clear hcz137_1
  try clear hcz137_2
  try clear hcz145_0
  try clear hcz145_1
  try clear hcz145_2
  try clear hcz158_0
  try clear hcz158_1
  try clear hcz158_2
  try clear hcz168_0
  try clear hcz168_1
  try clear hcz168_2
  try clear hcz177_0
  try clear hcz177_1
  try clear hcz177_2
  try clear hcz187_0
  try clear hcz187_1
  try clear hcz187_2
  try clear hcz198_0
  try clear hcz198_1
  try clear hcz198_2
  try clear hcz202_0
  try clear hcz202_1
  try clear hcz202_2
  try clear hfz114_0
  try clear hfz114_1
  try clear hfz114_2
  try clear hfz117_0
  try clear hfz117_1
  try clear hfz117_2
  try clear hfz125_0
  try clear hfz125_1
  try clear hfz125_2
  try clear hfz134_0
  try clear hfz134_1
  try clear hfz134_2
  try clear hfz137_0
  try clear hfz137_1
  try clear hfz137_2
  try clear hfz145_0
  try clear hfz145_1
  try clear hfz145_2
  try clear hfz158_0
  try clear hfz158_1
  try clear hfz158_2
  try clear hfz168_0
  try clear hfz168_1
  try clear hfz168_2
  try clear hfz177_0
  try clear hfz177_1
  try clear hfz177_2
  try clear hfz187_0
  try clear hfz187_1
  try clear hfz187_2
  try clear hfz198_0
  try clear hfz198_1
  try clear hfz198_2
  try clear hfz202_0
  try clear hfz202_1
  try clear hfz202_2
  try clear hfz89_0
  try clear hfz89_1
  try clear hfz89_2
  try clear hfz94_0
  try clear hfz94_1
  try clear hfz94_2
  try clear hx261_0
  try clear hx268_0
  try clear hx274_0
  try clear p2
  try clear p26
  try clear p261
  try clear p268
  try clear p27
  try clear p274
  try clear p6
  try clear p64
  try clear q2
  try clear q26
  try clear q261
  try clear q268
  try clear q27
  try clear q274
  obtain ⟨kq, x247000_191, x247001_191, x247002_191, HA, HJ191, BK222, BK223, BK237, BK246, HI226, HB⟩ := hcut
  cases kq with
  | zero => exact absurd HA.out (by simp [spec_DrawBinary.j7])
  | succ kj191 =>
  have H := HA.out
  clear HA
  simp only [spec_DrawBinary.j7] at H
  replace H := Option.bind_eq_some_iff.mp H
  obtain ⟨⟨t277, t278⟩, A2030, H⟩ := H
  replace H : (if t277 = 0 then ((spec_l1Rd_pick.f kj191 t224 t278 22).bind fun bt279 => (some (wrap64 (bt279.1 - 1), t233, x238001_94, t235, x247000_191, x247001_191, x247002_191))) else (some ((wrap64 (1 + t227)), t233, x238001_94, t235, x247000_191, x247001_191, x247002_191))) = some (r1, r2, r3, r4, r5, r6, r7) := H
  have A203 := mk0 A2030
  clear A2030
  by_cases c204 : t277 = 0
  · rw [if_pos c204] at H
    have c204b0 : (t277 == 0) = true := beq_iff_eq.mpr c204
    have c204b1 : (t277 != 0) = false := bne_eq_false_iff_eq.mpr c204
    clear c204
    replace H := Option.bind_eq_some_iff.mp H
    obtain ⟨⟨t279, t280⟩, A2050, H⟩ := H
    replace H : (some (wrap64 (t279 - 1), t233, x238001_94, t235, x247000_191, x247001_191, x247002_191)) = some (r1, r2, r3, r4, r5, r6, r7) := H
    have A205 := mk0 A2050
    clear A2050
    simp only [Option.some.injEq, Prod.mk.injEq] at H
    obtain ⟨rfl, rfl, rfl, rfl, rfl, rfl, rfl⟩ := H
    try go_wp2_with (first | ((with_reducible refine gate_callee (f := 89) rfl ?_); refine goesL_ (some 114) rfl rfl Try.func89 (by kernel_rfl) rfl #[.pointer (some ⟨g226, 0, none⟩), .int .i64 24] rfl (by (try simp only [List.map_toArray, List.map_cons, List.map_nil]); first | done | rfl | (simp only [List.length_drop, List.length_take]; rfl)) ?_; (with_reducible refine (spec_l1Rd_pick.calls kj191 g226 t224 x227001_187 24 t277 t278 w _ ?side1 ?side2 A203.out).mono ?_); (case side1 => repeat (first | (with_reducible first | exact HI226.out | apply IsS145.alloc | apply IsS145.drewN | apply IsS145.drew | apply IsS145.set_1 | refine IsS145.far ?_ NB226_222.out _ | refine IsS145.far ?_ NB226_223.out _ | refine IsS145.far ?_ NB226_237.out _ | refine IsS145.far ?_ NB226_246.out _) | exact HI226.out)); (case side2 => repeat (first | (with_reducible first | exact HB.out | apply wA | apply wN | apply wD | refine wS ?_ (IsS145.ge HI226.out) | refine wS ?_ GE222.out | refine wS ?_ GE223.out | refine wS ?_ GE237.out | refine wS ?_ GE246.out) | exact HB.out)); rintro e w206 ⟨rfl, hi, hb, hk⟩; refine ⟨_, rfl, ?_⟩; have n0_ := mk0 (KeepBut.blk hk (g' := gb222) (o := .cells #[.int .i64 0, .int .i64 0, .string (⟨#[]⟩ : ByteArray)] 34 (0, 0)) (by (with_reducible repeat (first | apply bN | apply bD | apply bA)); exact BK222.out) NB222_226.out (by simp)); have n1_ := mk0 (KeepBut.blk hk (g' := gb223) (o := .cells #[.int .i64 0, .int .i64 0, .string (⟨#[]⟩ : ByteArray)] 34 (0, 0)) (by (with_reducible repeat (first | apply bN | apply bD | apply bA)); exact BK223.out) NB223_226.out (by simp)); have n2_ := mk0 (KeepBut.blk hk (g' := gb237) (o := .cells #[.int .i64 t233, .int .i64 x238001_94, .string t235] 34 (0, 0)) (by (with_reducible repeat (first | apply bN | apply bD | apply bA)); exact BK237.out) NB237_226.out (by simp)); have n3_ := mk0 (KeepBut.blk hk (g' := gb246) (o := .cells #[.int .i64 x247000_191, .int .i64 x247001_191, .string x247002_191] 34 (0, 0)) (by (with_reducible repeat (first | apply bN | apply bD | apply bA)); exact BK246.out) NB246_226.out (by simp)); have n4_ := mk0 (hb); have n5_ := mk0 (hi); clear BK222; clear BK223; clear BK237; clear BK246; clear HB; clear HI226; have BK222 := n0_; have BK223 := n1_; have BK237 := n2_; have BK246 := n3_; have HB := n4_; have HI226 := n5_; clear n0_ n1_ n2_ n3_ n4_ n5_; (try clear hb); (try clear hb2); (try clear hk); (try clear hi)) | ((with_reducible refine gate_callee (f := 89) rfl ?_); refine goesL_ (some 117) rfl rfl Try.func89 (by kernel_rfl) rfl #[.pointer (some ⟨g226, 0, none⟩), .int .i64 22] rfl (by (try simp only [List.map_toArray, List.map_cons, List.map_nil]); first | done | rfl | (simp only [List.length_drop, List.length_take]; rfl)) ?_; (with_reducible refine (spec_l1Rd_pick.calls kj191 g226 t224 t278 22 t279 t280 w _ ?side1 ?side2 A205.out).mono ?_); (case side1 => repeat (first | (with_reducible first | exact HI226.out | apply IsS145.alloc | apply IsS145.drewN | apply IsS145.drew | apply IsS145.set_1 | refine IsS145.far ?_ NB226_222.out _ | refine IsS145.far ?_ NB226_223.out _ | refine IsS145.far ?_ NB226_237.out _ | refine IsS145.far ?_ NB226_246.out _) | exact HI226.out)); (case side2 => repeat (first | (with_reducible first | exact HB.out | apply wA | apply wN | apply wD | refine wS ?_ (IsS145.ge HI226.out) | refine wS ?_ GE222.out | refine wS ?_ GE223.out | refine wS ?_ GE237.out | refine wS ?_ GE246.out) | exact HB.out)); rintro e w207 ⟨rfl, hi, hb, hk⟩; refine ⟨_, rfl, ?_⟩; have n0_ := mk0 (KeepBut.blk hk (g' := gb222) (o := .cells #[.int .i64 0, .int .i64 0, .string (⟨#[]⟩ : ByteArray)] 34 (0, 0)) (by (with_reducible repeat (first | apply bN | apply bD | apply bA)); exact BK222.out) NB222_226.out (by simp)); have n1_ := mk0 (KeepBut.blk hk (g' := gb223) (o := .cells #[.int .i64 0, .int .i64 0, .string (⟨#[]⟩ : ByteArray)] 34 (0, 0)) (by (with_reducible repeat (first | apply bN | apply bD | apply bA)); exact BK223.out) NB223_226.out (by simp)); have n2_ := mk0 (KeepBut.blk hk (g' := gb237) (o := .cells #[.int .i64 t233, .int .i64 x238001_94, .string t235] 34 (0, 0)) (by (with_reducible repeat (first | apply bN | apply bD | apply bA)); exact BK237.out) NB237_226.out (by simp)); have n3_ := mk0 (KeepBut.blk hk (g' := gb246) (o := .cells #[.int .i64 x247000_191, .int .i64 x247001_191, .string x247002_191] 34 (0, 0)) (by (with_reducible repeat (first | apply bN | apply bD | apply bA)); exact BK246.out) NB246_226.out (by simp)); have n4_ := mk0 (hb); have n5_ := mk0 (hi); clear BK222; clear BK223; clear BK237; clear BK246; clear HB; clear HI226; have BK222 := n0_; have BK223 := n1_; have BK237 := n2_; have BK246 := n3_; have HB := n4_; have HI226 := n5_; clear n0_ n1_ n2_ n3_ n4_ n5_; (try clear hb); (try clear hb2); (try clear hk); (try clear hi)))
    have n0_ := mk0 (bD BK222.out)
    have n1_ := mk0 (bD BK223.out)
    have n2_ := mk0 (bD BK237.out)
    have n3_ := mk0 (bD BK246.out)
    have n4_ := mk0 (IsS145.drew HI226.out)
    have n5_ := mk0 (wD HB.out)
    clear BK222
    clear BK223
    clear BK237
    clear BK246
    clear HI226
    clear HB
    have BK222 := n0_
    have BK223 := n1_
    have BK237 := n2_
    have BK246 := n3_
    have HI226 := n4_
    have HB := n5_
    clear n0_ n1_ n2_ n3_ n4_ n5_
    refine start_ (n := 6) (S := fun w' => w'.cell? ⟨gb237, 0, none⟩ = some (.int .i64 t233) ∧ w'.cell? ⟨gb237, 1, none⟩ = some (.int .i64 x238001_94) ∧ w'.cell? ⟨gb237, 2, none⟩ = some (.string t235) ∧ w'.cell? ⟨gb246, 0, none⟩ = some (.int .i64 x247000_191) ∧ w'.cell? ⟨gb246, 1, none⟩ = some (.int .i64 x247001_191) ∧ w'.cell? ⟨gb246, 2, none⟩ = some (.string x247002_191)) (ds := []) #[false, false, false, false, false, false] (by kernel_rfl) rfl rfl ⟨(bC BK237.out 0).trans rfl, (bC BK237.out 1).trans rfl, (bC BK237.out 2).trans rfl, (bC BK246.out 0).trans rfl, (bC BK246.out 1).trans rfl, (bC BK246.out 2).trans rfl⟩ (fun hHeld => ?_)
    generalize w207.drew = w208 at BK222 BK223 BK237 BK246 HI226 HB hHeld ⊢
    refine pure_ (i := 0) (N := some 119) (v := ?_) (a' := ?_) #[true, false, false, false, false, false] rfl rfl (by kernel_rfl) (fun _ _ _ h => h) (Or.inl ⟨by rfl, ?_⟩) ?_ ?_
    rotate_left
    · intro w'
      go_simp
      with_reducible rfl
    rotate_left
    · simp only [Act.put, List.setIfInBounds_toArray, List.set_cons_zero, List.set_cons_succ, i64_w, i32_w]
      rfl
    refine pure_ (i := 3) (N := some 2) (v := ?_) (a' := ?_) #[true, false, false, true, false, false] rfl rfl (by kernel_rfl) (fun _ _ _ h => h) (Or.inl ⟨by rfl, ?_⟩) ?_ ?_
    rotate_left
    · intro w'
      go_simp
      with_reducible rfl
    rotate_left
    · simp only [Act.put, List.setIfInBounds_toArray, List.set_cons_zero, List.set_cons_succ, i64_w, i32_w]
      rfl
    refine take_ (i := 1) (N := some 120) (v := ?_) (a' := ?_) #[true, true, false, true, false, false] rfl rfl (by kernel_rfl) (fun _ _ _ h => h) (Or.inl ⟨by rfl, ?_⟩) hHeld ?_ ?_
    rotate_left
    · rintro w' ⟨s0, s1, s2, s3, s4, s5⟩
      go_simp
      with_reducible rfl
    rotate_left
    · simp only [Act.put, List.setIfInBounds_toArray, List.set_cons_zero, List.set_cons_succ, i64_w, i32_w]
      rfl
    refine take_ (i := 2) (N := some 121) (v := ?_) (a' := ?_) #[true, true, true, true, false, false] rfl rfl (by kernel_rfl) (fun _ _ _ h => h) (Or.inl ⟨by rfl, ?_⟩) hHeld ?_ ?_
    rotate_left
    · rintro w' ⟨s0, s1, s2, s3, s4, s5⟩
      go_simp
      with_reducible rfl
    rotate_left
    · simp only [Act.put, List.setIfInBounds_toArray, List.set_cons_zero, List.set_cons_succ, i64_w, i32_w]
      rfl
    refine one_ (i := 4) (N := none) #[true, true, true, true, true, false] rfl rfl (by kernel_rfl) (by decide) (fun K hK => ?_)
    have hs209 : w208.cell? ⟨gb222, 0, none⟩ = some (.int .i64 0) := (bC BK222.out 0).trans rfl
    have hfs209 := bF BK222.out 0
    have hns209_1 := NB223_222.out
    have hns209_2 := NB237_222.out
    have hns209_3 := NB246_222.out
    have hms209_1 := NB222_223.out
    have hms209_2 := NB222_237.out
    have hms209_3 := NB222_246.out
    have hs210 : w208.cell? ⟨gb222, 1, none⟩ = some (.int .i64 0) := (bC BK222.out 1).trans rfl
    have hfs210 := bF BK222.out 1
    have hns210_1 := NB223_222.out
    have hns210_2 := NB237_222.out
    have hns210_3 := NB246_222.out
    have hms210_1 := NB222_223.out
    have hms210_2 := NB222_237.out
    have hms210_3 := NB222_246.out
    have hs211 : w208.cell? ⟨gb222, 2, none⟩ = some (.string (⟨#[]⟩ : ByteArray)) := (bC BK222.out 2).trans rfl
    have hfs211 := bF BK222.out 2
    have hns211_1 := NB223_222.out
    have hns211_2 := NB237_222.out
    have hns211_3 := NB246_222.out
    have hms211_1 := NB222_223.out
    have hms211_2 := NB222_237.out
    have hms211_3 := NB222_246.out
    refine skip_ (w1 := ?_) (by rfl) rfl ?_ ?_
    rotate_left
    · go_simp
      rfl
    refine hK.out _ _ ⟨((cell_far (p := ⟨gb222, _, none⟩) NB237_222.out _).trans (((cell_far (p := ⟨gb222, _, none⟩) NB237_222.out _).trans (((cell_far (p := ⟨gb222, _, none⟩) NB237_222.out _).trans (hHeld.1)))))), ((cell_far (p := ⟨gb222, _, none⟩) NB237_222.out _).trans (((cell_far (p := ⟨gb222, _, none⟩) NB237_222.out _).trans (((cell_far (p := ⟨gb222, _, none⟩) NB237_222.out _).trans (hHeld.2.1)))))), ((cell_far (p := ⟨gb222, _, none⟩) NB237_222.out _).trans (((cell_far (p := ⟨gb222, _, none⟩) NB237_222.out _).trans (((cell_far (p := ⟨gb222, _, none⟩) NB237_222.out _).trans (hHeld.2.2.1)))))), ((cell_far (p := ⟨gb222, _, none⟩) NB246_222.out _).trans (((cell_far (p := ⟨gb222, _, none⟩) NB246_222.out _).trans (((cell_far (p := ⟨gb222, _, none⟩) NB246_222.out _).trans (hHeld.2.2.2.1)))))), ((cell_far (p := ⟨gb222, _, none⟩) NB246_222.out _).trans (((cell_far (p := ⟨gb222, _, none⟩) NB246_222.out _).trans (((cell_far (p := ⟨gb222, _, none⟩) NB246_222.out _).trans (hHeld.2.2.2.2.1)))))), ((cell_far (p := ⟨gb222, _, none⟩) NB246_222.out _).trans (((cell_far (p := ⟨gb222, _, none⟩) NB246_222.out _).trans (((cell_far (p := ⟨gb222, _, none⟩) NB246_222.out _).trans (hHeld.2.2.2.2.2))))))⟩ (fun hHeld => ?_)
    clear hK K
    refine one_ (i := 5) (N := none) #[true, true, true, true, true, true] rfl rfl (by kernel_rfl) (by decide) (fun K hK => ?_)
    have hs212 : w208.cell? ⟨gb223, 0, none⟩ = some (.int .i64 0) := (bC BK223.out 0).trans rfl
    have hfs212 := bF BK223.out 0
    have hns212_0 := NB222_223.out
    have hns212_2 := NB237_223.out
    have hns212_3 := NB246_223.out
    have hms212_0 := NB223_222.out
    have hms212_2 := NB223_237.out
    have hms212_3 := NB223_246.out
    have hs213 : w208.cell? ⟨gb223, 1, none⟩ = some (.int .i64 0) := (bC BK223.out 1).trans rfl
    have hfs213 := bF BK223.out 1
    have hns213_0 := NB222_223.out
    have hns213_2 := NB237_223.out
    have hns213_3 := NB246_223.out
    have hms213_0 := NB223_222.out
    have hms213_2 := NB223_237.out
    have hms213_3 := NB223_246.out
    have hs214 : w208.cell? ⟨gb223, 2, none⟩ = some (.string (⟨#[]⟩ : ByteArray)) := (bC BK223.out 2).trans rfl
    have hfs214 := bF BK223.out 2
    have hns214_0 := NB222_223.out
    have hns214_2 := NB237_223.out
    have hns214_3 := NB246_223.out
    have hms214_0 := NB223_222.out
    have hms214_2 := NB223_237.out
    have hms214_3 := NB223_246.out
    refine skip_ (w1 := ?_) (by rfl) rfl ?_ ?_
    rotate_left
    · go_simp
      rfl
    refine hK.out _ _ ⟨((cell_far (p := ⟨gb223, _, none⟩) NB237_223.out _).trans (((cell_far (p := ⟨gb223, _, none⟩) NB237_223.out _).trans (((cell_far (p := ⟨gb223, _, none⟩) NB237_223.out _).trans (hHeld.1)))))), ((cell_far (p := ⟨gb223, _, none⟩) NB237_223.out _).trans (((cell_far (p := ⟨gb223, _, none⟩) NB237_223.out _).trans (((cell_far (p := ⟨gb223, _, none⟩) NB237_223.out _).trans (hHeld.2.1)))))), ((cell_far (p := ⟨gb223, _, none⟩) NB237_223.out _).trans (((cell_far (p := ⟨gb223, _, none⟩) NB237_223.out _).trans (((cell_far (p := ⟨gb223, _, none⟩) NB237_223.out _).trans (hHeld.2.2.1)))))), ((cell_far (p := ⟨gb223, _, none⟩) NB246_223.out _).trans (((cell_far (p := ⟨gb223, _, none⟩) NB246_223.out _).trans (((cell_far (p := ⟨gb223, _, none⟩) NB246_223.out _).trans (hHeld.2.2.2.1)))))), ((cell_far (p := ⟨gb223, _, none⟩) NB246_223.out _).trans (((cell_far (p := ⟨gb223, _, none⟩) NB246_223.out _).trans (((cell_far (p := ⟨gb223, _, none⟩) NB246_223.out _).trans (hHeld.2.2.2.2.1)))))), ((cell_far (p := ⟨gb223, _, none⟩) NB246_223.out _).trans (((cell_far (p := ⟨gb223, _, none⟩) NB246_223.out _).trans (((cell_far (p := ⟨gb223, _, none⟩) NB246_223.out _).trans (hHeld.2.2.2.2.2))))))⟩ (fun hHeld => ?_)
    clear hK K
    refine done_ (by kernel_rfl) ?_
    try go_wp2
    refine bodyPost_ret (results_list (rs := [.tmp 2, .cell 3 34, .cell 4 34]) rfl (by simp) (.tmp (.cell gb222 34 #[.int .i64 t233, .int .i64 x238001_94, .string t235] (0, 0) _ rfl (by (with_reducible repeat (first | apply bN | apply bD | apply bA)); refine blk_far ?_ NB222_223.out _; (with_reducible repeat (first | apply bN | apply bD | apply bA)); refine blk_far ?_ NB222_223.out _; (with_reducible repeat (first | apply bN | apply bD | apply bA)); refine blk_far ?_ NB222_223.out _; (with_reducible repeat (first | apply bN | apply bD | apply bA)); refine blk_put (cs := #[.int .i64 t233, .int .i64 x238001_94, .string (⟨#[]⟩ : ByteArray)]) ?_ 2 _ rfl; (with_reducible repeat (first | apply bN | apply bD | apply bA)); refine blk_put (cs := #[.int .i64 t233, .int .i64 0, .string (⟨#[]⟩ : ByteArray)]) ?_ 1 _ rfl; (with_reducible repeat (first | apply bN | apply bD | apply bA)); refine blk_put (cs := #[.int .i64 0, .int .i64 0, .string (⟨#[]⟩ : ByteArray)]) ?_ 0 _ rfl; (with_reducible repeat (first | apply bN | apply bD | apply bA)); exact BK222.out) Try.underlying34 rfl (by kernel_rfl) (.cell gb223 34 #[.int .i64 x247000_191, .int .i64 x247001_191, .string x247002_191] (0, 0) _ rfl (by (with_reducible repeat (first | apply bN | apply bD | apply bA)); refine blk_put (cs := #[.int .i64 x247000_191, .int .i64 x247001_191, .string (⟨#[]⟩ : ByteArray)]) ?_ 2 _ rfl; (with_reducible repeat (first | apply bN | apply bD | apply bA)); refine blk_put (cs := #[.int .i64 x247000_191, .int .i64 0, .string (⟨#[]⟩ : ByteArray)]) ?_ 1 _ rfl; (with_reducible repeat (first | apply bN | apply bD | apply bA)); refine blk_put (cs := #[.int .i64 0, .int .i64 0, .string (⟨#[]⟩ : ByteArray)]) ?_ 0 _ rfl; (with_reducible repeat (first | apply bN | apply bD | apply bA)); refine blk_far ?_ NB223_222.out _; (with_reducible repeat (first | apply bN | apply bD | apply bA)); refine blk_far ?_ NB223_222.out _; (with_reducible repeat (first | apply bN | apply bD | apply bA)); refine blk_far ?_ NB223_222.out _; (with_reducible repeat (first | apply bN | apply bD | apply bA)); exact BK223.out) Try.underlying34 rfl (by kernel_rfl) .nil)))) rfl ?_
    exact ⟨by first | rfl | (simp [errW_none, errW_some] <;> rfl) | (simp [*, errW_none, errW_some] <;> rfl), by repeat (first | (with_reducible first | exact HB.out | apply wA | apply wN | apply wD | refine wS ?_ (IsS145.ge HI226.out) | refine wS ?_ GE222.out | refine wS ?_ GE223.out | refine wS ?_ GE237.out | refine wS ?_ GE246.out) | exact HB.out)⟩
  rw [if_neg c204] at H
  have c204b0 : (t277 == 0) = false := beq_eq_false_iff_ne.mpr c204
  have c204b1 : (t277 != 0) = true := bne_iff_ne.mpr c204
  simp only [Option.some.injEq, Prod.mk.injEq] at H
  obtain ⟨rfl, rfl, rfl, rfl, rfl, rfl, rfl⟩ := H
  try go_wp2_with (first | ((with_reducible refine gate_callee (f := 89) rfl ?_); refine goesL_ (some 114) rfl rfl Try.func89 (by kernel_rfl) rfl #[.pointer (some ⟨g226, 0, none⟩), .int .i64 24] rfl (by (try simp only [List.map_toArray, List.map_cons, List.map_nil]); first | done | rfl | (simp only [List.length_drop, List.length_take]; rfl)) ?_; (with_reducible refine (spec_l1Rd_pick.calls kj191 g226 t224 x227001_187 24 t277 t278 w _ ?side1 ?side2 A203.out).mono ?_); (case side1 => repeat (first | (with_reducible first | exact HI226.out | apply IsS145.alloc | apply IsS145.drewN | apply IsS145.drew | apply IsS145.set_1 | refine IsS145.far ?_ NB226_222.out _ | refine IsS145.far ?_ NB226_223.out _ | refine IsS145.far ?_ NB226_237.out _ | refine IsS145.far ?_ NB226_246.out _) | exact HI226.out)); (case side2 => repeat (first | (with_reducible first | exact HB.out | apply wA | apply wN | apply wD | refine wS ?_ (IsS145.ge HI226.out) | refine wS ?_ GE222.out | refine wS ?_ GE223.out | refine wS ?_ GE237.out | refine wS ?_ GE246.out) | exact HB.out)); rintro e w215 ⟨rfl, hi, hb, hk⟩; refine ⟨_, rfl, ?_⟩; have n0_ := mk0 (KeepBut.blk hk (g' := gb222) (o := .cells #[.int .i64 0, .int .i64 0, .string (⟨#[]⟩ : ByteArray)] 34 (0, 0)) (by (with_reducible repeat (first | apply bN | apply bD | apply bA)); exact BK222.out) NB222_226.out (by simp)); have n1_ := mk0 (KeepBut.blk hk (g' := gb223) (o := .cells #[.int .i64 0, .int .i64 0, .string (⟨#[]⟩ : ByteArray)] 34 (0, 0)) (by (with_reducible repeat (first | apply bN | apply bD | apply bA)); exact BK223.out) NB223_226.out (by simp)); have n2_ := mk0 (KeepBut.blk hk (g' := gb237) (o := .cells #[.int .i64 t233, .int .i64 x238001_94, .string t235] 34 (0, 0)) (by (with_reducible repeat (first | apply bN | apply bD | apply bA)); exact BK237.out) NB237_226.out (by simp)); have n3_ := mk0 (KeepBut.blk hk (g' := gb246) (o := .cells #[.int .i64 x247000_191, .int .i64 x247001_191, .string x247002_191] 34 (0, 0)) (by (with_reducible repeat (first | apply bN | apply bD | apply bA)); exact BK246.out) NB246_226.out (by simp)); have n4_ := mk0 (hb); have n5_ := mk0 (hi); clear BK222; clear BK223; clear BK237; clear BK246; clear HB; clear HI226; have BK222 := n0_; have BK223 := n1_; have BK237 := n2_; have BK246 := n3_; have HB := n4_; have HI226 := n5_; clear n0_ n1_ n2_ n3_ n4_ n5_; (try clear hb); (try clear hb2); (try clear hk); (try clear hi)))
  have n0_ := mk0 (bD BK222.out)
  have n1_ := mk0 (bD BK223.out)
  have n2_ := mk0 (bD BK237.out)
  have n3_ := mk0 (bD BK246.out)
  have n4_ := mk0 (IsS145.drew HI226.out)
  have n5_ := mk0 (wD HB.out)
  clear BK222
  clear BK223
  clear BK237
  clear BK246
  clear HI226
  clear HB
  have BK222 := n0_
  have BK223 := n1_
  have BK237 := n2_
  have BK246 := n3_
  have HI226 := n4_
  have HB := n5_
  clear n0_ n1_ n2_ n3_ n4_ n5_
  refine start_ (n := 6) (S := fun w' => w'.cell? ⟨gb237, 0, none⟩ = some (.int .i64 t233) ∧ w'.cell? ⟨gb237, 1, none⟩ = some (.int .i64 x238001_94) ∧ w'.cell? ⟨gb237, 2, none⟩ = some (.string t235) ∧ w'.cell? ⟨gb246, 0, none⟩ = some (.int .i64 x247000_191) ∧ w'.cell? ⟨gb246, 1, none⟩ = some (.int .i64 x247001_191) ∧ w'.cell? ⟨gb246, 2, none⟩ = some (.string x247002_191)) (ds := []) #[false, false, false, false, false, false] (by kernel_rfl) rfl rfl ⟨(bC BK237.out 0).trans rfl, (bC BK237.out 1).trans rfl, (bC BK237.out 2).trans rfl, (bC BK246.out 0).trans rfl, (bC BK246.out 1).trans rfl, (bC BK246.out 2).trans rfl⟩ (fun hHeld => ?_)
  generalize w215.drew = w216 at BK222 BK223 BK237 BK246 HI226 HB hHeld ⊢
  refine pure_ (i := 0) (N := some 119) (v := ?_) (a' := ?_) #[true, false, false, false, false, false] rfl rfl (by kernel_rfl) (fun _ _ _ h => h) (Or.inl ⟨by rfl, ?_⟩) ?_ ?_
  rotate_left
  · intro w'
    go_simp
    with_reducible rfl
  rotate_left
  · simp only [Act.put, List.setIfInBounds_toArray, List.set_cons_zero, List.set_cons_succ, i64_w, i32_w]
    rfl
  refine pure_ (i := 3) (N := some 2) (v := ?_) (a' := ?_) #[true, false, false, true, false, false] rfl rfl (by kernel_rfl) (fun _ _ _ h => h) (Or.inl ⟨by rfl, ?_⟩) ?_ ?_
  rotate_left
  · intro w'
    go_simp
    with_reducible rfl
  rotate_left
  · simp only [Act.put, List.setIfInBounds_toArray, List.set_cons_zero, List.set_cons_succ, i64_w, i32_w]
    rfl
  refine take_ (i := 1) (N := some 120) (v := ?_) (a' := ?_) #[true, true, false, true, false, false] rfl rfl (by kernel_rfl) (fun _ _ _ h => h) (Or.inl ⟨by rfl, ?_⟩) hHeld ?_ ?_
  rotate_left
  · rintro w' ⟨s0, s1, s2, s3, s4, s5⟩
    go_simp
    with_reducible rfl
  rotate_left
  · simp only [Act.put, List.setIfInBounds_toArray, List.set_cons_zero, List.set_cons_succ, i64_w, i32_w]
    rfl
  refine take_ (i := 2) (N := some 121) (v := ?_) (a' := ?_) #[true, true, true, true, false, false] rfl rfl (by kernel_rfl) (fun _ _ _ h => h) (Or.inl ⟨by rfl, ?_⟩) hHeld ?_ ?_
  rotate_left
  · rintro w' ⟨s0, s1, s2, s3, s4, s5⟩
    go_simp
    with_reducible rfl
  rotate_left
  · simp only [Act.put, List.setIfInBounds_toArray, List.set_cons_zero, List.set_cons_succ, i64_w, i32_w]
    rfl
  refine one_ (i := 4) (N := none) #[true, true, true, true, true, false] rfl rfl (by kernel_rfl) (by decide) (fun K hK => ?_)
  have hs217 : w216.cell? ⟨gb222, 0, none⟩ = some (.int .i64 0) := (bC BK222.out 0).trans rfl
  have hfs217 := bF BK222.out 0
  have hns217_1 := NB223_222.out
  have hns217_2 := NB237_222.out
  have hns217_3 := NB246_222.out
  have hms217_1 := NB222_223.out
  have hms217_2 := NB222_237.out
  have hms217_3 := NB222_246.out
  have hs218 : w216.cell? ⟨gb222, 1, none⟩ = some (.int .i64 0) := (bC BK222.out 1).trans rfl
  have hfs218 := bF BK222.out 1
  have hns218_1 := NB223_222.out
  have hns218_2 := NB237_222.out
  have hns218_3 := NB246_222.out
  have hms218_1 := NB222_223.out
  have hms218_2 := NB222_237.out
  have hms218_3 := NB222_246.out
  have hs219 : w216.cell? ⟨gb222, 2, none⟩ = some (.string (⟨#[]⟩ : ByteArray)) := (bC BK222.out 2).trans rfl
  have hfs219 := bF BK222.out 2
  have hns219_1 := NB223_222.out
  have hns219_2 := NB237_222.out
  have hns219_3 := NB246_222.out
  have hms219_1 := NB222_223.out
  have hms219_2 := NB222_237.out
  have hms219_3 := NB222_246.out
  refine skip_ (w1 := ?_) (by rfl) rfl ?_ ?_
  rotate_left
  · go_simp
    rfl
  refine hK.out _ _ ⟨((cell_far (p := ⟨gb222, _, none⟩) NB237_222.out _).trans (((cell_far (p := ⟨gb222, _, none⟩) NB237_222.out _).trans (((cell_far (p := ⟨gb222, _, none⟩) NB237_222.out _).trans (hHeld.1)))))), ((cell_far (p := ⟨gb222, _, none⟩) NB237_222.out _).trans (((cell_far (p := ⟨gb222, _, none⟩) NB237_222.out _).trans (((cell_far (p := ⟨gb222, _, none⟩) NB237_222.out _).trans (hHeld.2.1)))))), ((cell_far (p := ⟨gb222, _, none⟩) NB237_222.out _).trans (((cell_far (p := ⟨gb222, _, none⟩) NB237_222.out _).trans (((cell_far (p := ⟨gb222, _, none⟩) NB237_222.out _).trans (hHeld.2.2.1)))))), ((cell_far (p := ⟨gb222, _, none⟩) NB246_222.out _).trans (((cell_far (p := ⟨gb222, _, none⟩) NB246_222.out _).trans (((cell_far (p := ⟨gb222, _, none⟩) NB246_222.out _).trans (hHeld.2.2.2.1)))))), ((cell_far (p := ⟨gb222, _, none⟩) NB246_222.out _).trans (((cell_far (p := ⟨gb222, _, none⟩) NB246_222.out _).trans (((cell_far (p := ⟨gb222, _, none⟩) NB246_222.out _).trans (hHeld.2.2.2.2.1)))))), ((cell_far (p := ⟨gb222, _, none⟩) NB246_222.out _).trans (((cell_far (p := ⟨gb222, _, none⟩) NB246_222.out _).trans (((cell_far (p := ⟨gb222, _, none⟩) NB246_222.out _).trans (hHeld.2.2.2.2.2))))))⟩ (fun hHeld => ?_)
  clear hK K
  refine one_ (i := 5) (N := none) #[true, true, true, true, true, true] rfl rfl (by kernel_rfl) (by decide) (fun K hK => ?_)
  have hs220 : w216.cell? ⟨gb223, 0, none⟩ = some (.int .i64 0) := (bC BK223.out 0).trans rfl
  have hfs220 := bF BK223.out 0
  have hns220_0 := NB222_223.out
  have hns220_2 := NB237_223.out
  have hns220_3 := NB246_223.out
  have hms220_0 := NB223_222.out
  have hms220_2 := NB223_237.out
  have hms220_3 := NB223_246.out
  have hs221 : w216.cell? ⟨gb223, 1, none⟩ = some (.int .i64 0) := (bC BK223.out 1).trans rfl
  have hfs221 := bF BK223.out 1
  have hns221_0 := NB222_223.out
  have hns221_2 := NB237_223.out
  have hns221_3 := NB246_223.out
  have hms221_0 := NB223_222.out
  have hms221_2 := NB223_237.out
  have hms221_3 := NB223_246.out
  have hs222 : w216.cell? ⟨gb223, 2, none⟩ = some (.string (⟨#[]⟩ : ByteArray)) := (bC BK223.out 2).trans rfl
  have hfs222 := bF BK223.out 2
  have hns222_0 := NB222_223.out
  have hns222_2 := NB237_223.out
  have hns222_3 := NB246_223.out
  have hms222_0 := NB223_222.out
  have hms222_2 := NB223_237.out
  have hms222_3 := NB223_246.out
  refine skip_ (w1 := ?_) (by rfl) rfl ?_ ?_
  rotate_left
  · go_simp
    rfl
  refine hK.out _ _ ⟨((cell_far (p := ⟨gb223, _, none⟩) NB237_223.out _).trans (((cell_far (p := ⟨gb223, _, none⟩) NB237_223.out _).trans (((cell_far (p := ⟨gb223, _, none⟩) NB237_223.out _).trans (hHeld.1)))))), ((cell_far (p := ⟨gb223, _, none⟩) NB237_223.out _).trans (((cell_far (p := ⟨gb223, _, none⟩) NB237_223.out _).trans (((cell_far (p := ⟨gb223, _, none⟩) NB237_223.out _).trans (hHeld.2.1)))))), ((cell_far (p := ⟨gb223, _, none⟩) NB237_223.out _).trans (((cell_far (p := ⟨gb223, _, none⟩) NB237_223.out _).trans (((cell_far (p := ⟨gb223, _, none⟩) NB237_223.out _).trans (hHeld.2.2.1)))))), ((cell_far (p := ⟨gb223, _, none⟩) NB246_223.out _).trans (((cell_far (p := ⟨gb223, _, none⟩) NB246_223.out _).trans (((cell_far (p := ⟨gb223, _, none⟩) NB246_223.out _).trans (hHeld.2.2.2.1)))))), ((cell_far (p := ⟨gb223, _, none⟩) NB246_223.out _).trans (((cell_far (p := ⟨gb223, _, none⟩) NB246_223.out _).trans (((cell_far (p := ⟨gb223, _, none⟩) NB246_223.out _).trans (hHeld.2.2.2.2.1)))))), ((cell_far (p := ⟨gb223, _, none⟩) NB246_223.out _).trans (((cell_far (p := ⟨gb223, _, none⟩) NB246_223.out _).trans (((cell_far (p := ⟨gb223, _, none⟩) NB246_223.out _).trans (hHeld.2.2.2.2.2))))))⟩ (fun hHeld => ?_)
  clear hK K
  refine done_ (by kernel_rfl) ?_
  try go_wp2
  refine bodyPost_ret (results_list (rs := [.tmp 2, .cell 3 34, .cell 4 34]) rfl (by simp) (.tmp (.cell gb222 34 #[.int .i64 t233, .int .i64 x238001_94, .string t235] (0, 0) _ rfl (by (with_reducible repeat (first | apply bN | apply bD | apply bA)); refine blk_far ?_ NB222_223.out _; (with_reducible repeat (first | apply bN | apply bD | apply bA)); refine blk_far ?_ NB222_223.out _; (with_reducible repeat (first | apply bN | apply bD | apply bA)); refine blk_far ?_ NB222_223.out _; (with_reducible repeat (first | apply bN | apply bD | apply bA)); refine blk_put (cs := #[.int .i64 t233, .int .i64 x238001_94, .string (⟨#[]⟩ : ByteArray)]) ?_ 2 _ rfl; (with_reducible repeat (first | apply bN | apply bD | apply bA)); refine blk_put (cs := #[.int .i64 t233, .int .i64 0, .string (⟨#[]⟩ : ByteArray)]) ?_ 1 _ rfl; (with_reducible repeat (first | apply bN | apply bD | apply bA)); refine blk_put (cs := #[.int .i64 0, .int .i64 0, .string (⟨#[]⟩ : ByteArray)]) ?_ 0 _ rfl; (with_reducible repeat (first | apply bN | apply bD | apply bA)); exact BK222.out) Try.underlying34 rfl (by kernel_rfl) (.cell gb223 34 #[.int .i64 x247000_191, .int .i64 x247001_191, .string x247002_191] (0, 0) _ rfl (by (with_reducible repeat (first | apply bN | apply bD | apply bA)); refine blk_put (cs := #[.int .i64 x247000_191, .int .i64 x247001_191, .string (⟨#[]⟩ : ByteArray)]) ?_ 2 _ rfl; (with_reducible repeat (first | apply bN | apply bD | apply bA)); refine blk_put (cs := #[.int .i64 x247000_191, .int .i64 0, .string (⟨#[]⟩ : ByteArray)]) ?_ 1 _ rfl; (with_reducible repeat (first | apply bN | apply bD | apply bA)); refine blk_put (cs := #[.int .i64 0, .int .i64 0, .string (⟨#[]⟩ : ByteArray)]) ?_ 0 _ rfl; (with_reducible repeat (first | apply bN | apply bD | apply bA)); refine blk_far ?_ NB223_222.out _; (with_reducible repeat (first | apply bN | apply bD | apply bA)); refine blk_far ?_ NB223_222.out _; (with_reducible repeat (first | apply bN | apply bD | apply bA)); refine blk_far ?_ NB223_222.out _; (with_reducible repeat (first | apply bN | apply bD | apply bA)); exact BK223.out) Try.underlying34 rfl (by kernel_rfl) .nil)))) rfl ?_
  exact ⟨by first | rfl | (simp [errW_none, errW_some] <;> rfl) | (simp [*, errW_none, errW_some] <;> rfl), by repeat (first | (with_reducible first | exact HB.out | apply wA | apply wN | apply wD | refine wS ?_ (IsS145.ge HI226.out) | refine wS ?_ GE222.out | refine wS ?_ GE223.out | refine wS ?_ GE237.out | refine wS ?_ GE246.out) | exact HB.out)⟩

end Go.Proofs.Ytajlomhnednghaa.B
