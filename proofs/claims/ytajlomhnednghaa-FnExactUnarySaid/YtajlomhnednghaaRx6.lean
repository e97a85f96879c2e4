-- Printed by a program of this session (wip/tools/myprint.sh) out of the translation: Lean checks it.
import Derived.Test.YtajlomhnednghaaRx0
import Derived.Test.YtajlomhnednghaaRx4
import Derived.Test.YtajlomhnednghaaRx5
namespace Go.Proofs.Ytajlomhnednghaa.R
open Go.RowKit Go.Proofs.YtajlomhnednghaaW.PrintWords Go.Proofs.YtajlomhnednghaaW.PrintLast Go.Proofs.YtajlomhnednghaaW.PrintMore
attribute [local go_sem] max2_int min2_int max_two min_two max_three min_three max_four min_four   -- for this text's walks alone
set_option linter.unusedVariables false
set_option linter.unusedSimpArgs false

/-! ### spec_l4Into: function 58 -/
def spec_l4Into.f (k : Nat) (a0 : Int) (a1 : Int) : Option (Int) := (spec_l1Bits.f k a0).bind fun t102 => (if t102 < 64 then (if 0 ≤ (IntKind.u64.wrap (t102)) then (if (shl .u64 1 (IntKind.u64.wrap (t102))) = 0 then (none) else ((spec_l1Signed.f a0).bind fun t103 => (if t103 = true then (if (Int.tmod a1 (shl .u64 1 (IntKind.u64.wrap (t102)))) ≥ ((shl .u64 1 (IntKind.u64.wrap (t102))) / 2) then (some (wrap64 (IntKind.u64.wrap ((Int.tmod a1 (shl .u64 1 (IntKind.u64.wrap (t102)))) - (shl .u64 1 (IntKind.u64.wrap (t102))))))) else (some (wrap64 (Int.tmod a1 (shl .u64 1 (IntKind.u64.wrap (t102))))))) else (some (wrap64 (Int.tmod a1 (shl .u64 1 (IntKind.u64.wrap (t102))))))))) else (none)) else (some (wrap64 (a1))))
theorem spec_l4Into.mono : ∀ a0 a1 k, LeO (spec_l4Into.f k a0 a1) (spec_l4Into.f (k + 1) a0 a1) := by
  intro a0 a1 k
  unfold spec_l4Into.f
  repeat' first
      | (with_reducible exact spec_l1Bits.mono _ _)
      | (with_reducible exact LeO.refl _)
      | (with_reducible exact LeO.none _)
      | (with_reducible refine LeO.ite ?_ ?_)
      | (with_reducible refine LeO.bind ?_ (fun _ => ?_))
      | exact spec_l1Bits.mono _ _
      | exact LeO.none _
      | refine LeO.ite ?_ ?_
      | refine LeO.bind ?_ (fun _ => ?_)
set_option maxHeartbeats 8000000 in
set_option maxRecDepth 100000 in
theorem spec_l4Into.calls (k : Nat) (a0 : Int) (a1 : Int) (r : Int) (w : World) (h : spec_l4Into.f k a0 a1 = some r) :
    Calls Try.prog 58 #[.int .i64 a0, .int .u64 a1] w fun e w' => e = .returned (.int .i64 r) ∧ Drawn0 w w' := by
  have H : ((spec_l1Bits.f k a0).bind fun t102 => (if t102 < 64 then (if 0 ≤ (IntKind.u64.wrap (t102)) then (if (shl .u64 1 (IntKind.u64.wrap (t102))) = 0 then (none) else ((spec_l1Signed.f a0).bind fun t103 => (if t103 = true then (if (Int.tmod a1 (shl .u64 1 (IntKind.u64.wrap (t102)))) ≥ ((shl .u64 1 (IntKind.u64.wrap (t102))) / 2) then (some (wrap64 (IntKind.u64.wrap ((Int.tmod a1 (shl .u64 1 (IntKind.u64.wrap (t102)))) - (shl .u64 1 (IntKind.u64.wrap (t102))))))) else (some (wrap64 (Int.tmod a1 (shl .u64 1 (IntKind.u64.wrap (t102))))))) else (some (wrap64 (Int.tmod a1 (shl .u64 1 (IntKind.u64.wrap (t102))))))))) else (none)) else (some (wrap64 (a1))))) = some r := h
  clear h
  replace H := Option.bind_eq_some_iff.mp H
  obtain ⟨t102, A30, H⟩ := H
  replace H : (if t102 < 64 then (if 0 ≤ (IntKind.u64.wrap (t102)) then (if (shl .u64 1 (IntKind.u64.wrap (t102))) = 0 then (none) else ((spec_l1Signed.f a0).bind fun t103 => (if t103 = true then (if (Int.tmod a1 (shl .u64 1 (IntKind.u64.wrap (t102)))) ≥ ((shl .u64 1 (IntKind.u64.wrap (t102))) / 2) then (some (wrap64 (IntKind.u64.wrap ((Int.tmod a1 (shl .u64 1 (IntKind.u64.wrap (t102)))) - (shl .u64 1 (IntKind.u64.wrap (t102))))))) else (some (wrap64 (Int.tmod a1 (shl .u64 1 (IntKind.u64.wrap (t102))))))) else (some (wrap64 (Int.tmod a1 (shl .u64 1 (IntKind.u64.wrap (t102))))))))) else (none)) else (some (wrap64 (a1)))) = some r := H
  have A3 := Aside0.mk A30
  clear A30
  by_cases c4 : t102 < 64
  · rw [if_pos c4] at H
    have c4b0 : decide (t102 < 64) = true := decide_eq_true c4
    clear c4
    obtain ⟨ji5, hji5⟩ : ∃ j_ : Int, (IntKind.u64.wrap (t102)) = j_ := ⟨_, rfl⟩
    replace H : (if 0 ≤ (ji5) then (if (shl .u64 1 (ji5)) = 0 then (none) else ((spec_l1Signed.f a0).bind fun t103 => (if t103 = true then (if (Int.tmod a1 (shl .u64 1 (ji5))) ≥ ((shl .u64 1 (ji5)) / 2) then (some (wrap64 (IntKind.u64.wrap ((Int.tmod a1 (shl .u64 1 (ji5))) - (shl .u64 1 (ji5)))))) else (some (wrap64 (Int.tmod a1 (shl .u64 1 (ji5)))))) else (some (wrap64 (Int.tmod a1 (shl .u64 1 (ji5)))))))) else (none)) = some r := by first | (rw [hji5] at H; exact H) | (simp only [hji5] at H ⊢; exact H)
    (try rw [hji5] at A3)
    by_cases c6 : 0 ≤ (ji5)
    · rw [if_pos c6] at H
      have c6b0 := eq_true c6
      have c6b1 : decide (0 ≤ (ji5)) = true := decide_eq_true c6
      clear c6
      obtain ⟨ji7, hji7⟩ : ∃ j_ : Int, (shl .u64 1 (ji5)) = j_ := ⟨_, rfl⟩
      replace H : (if (ji7) = 0 then (none) else ((spec_l1Signed.f a0).bind fun t103 => (if t103 = true then (if (Int.tmod a1 (ji7)) ≥ ((ji7) / 2) then (some (wrap64 (IntKind.u64.wrap ((Int.tmod a1 (ji7)) - (ji7))))) else (some (wrap64 (Int.tmod a1 (ji7))))) else (some (wrap64 (Int.tmod a1 (ji7))))))) = some r := by first | (rw [hji7] at H; exact H) | (simp only [hji7] at H ⊢; exact H)
      (try rw [hji7] at A3)
      have hji7nn : 0 ≤ ji7 := by rw [← hji7]; unfold shl IntKind.wrap; simp only [IntKind.bits, IntKind.signed]; simp; omega
      have hji7nm : ji7 ≤ 18446744073709551615 := by rw [← hji7]; unfold shl IntKind.wrap; simp only [IntKind.bits, IntKind.signed]; simp; omega
      have hji7_ : (IntKind.u64.wrap (1 * 2 ^ min (ji5).toNat 64)) = ji7 := hji7
      have hji7z : (ji5) ≤ 64 → (IntKind.u64.wrap (1 * 2 ^ (ji5).toNat)) = ji7 := shl_small hji7
      have hji7u : (IntKind.u64.wrap (2 ^ min (ji5).toNat 64)) = ji7 := by have h_ := hji7_; rw [Int.one_mul] at h_; exact h_
      have hji7v : (ji5) ≤ 64 → (IntKind.u64.wrap (2 ^ (ji5).toNat)) = ji7 := fun hle_ => by have h_ := hji7z hle_; rw [Int.one_mul] at h_; exact h_
      by_cases c8 : (ji7) = 0
      · rw [if_pos c8] at H
        exact absurd H (by simp)
      · rw [if_neg c8] at H
        have c8b0 : ((ji7) == 0) = false := beq_eq_false_iff_ne.mpr c8
        have c8b1 : ((ji7) != 0) = true := bne_iff_ne.mpr c8
        replace H := Option.bind_eq_some_iff.mp H
        obtain ⟨t103, A90, H⟩ := H
        replace H : (if t103 = true then (if (Int.tmod a1 (ji7)) ≥ ((ji7) / 2) then (some (wrap64 (IntKind.u64.wrap ((Int.tmod a1 (ji7)) - (ji7))))) else (some (wrap64 (Int.tmod a1 (ji7))))) else (some (wrap64 (Int.tmod a1 (ji7))))) = some r := H
        have A9 := Aside0.mk A90
        clear A90
        by_cases c10 : t103 = true
        · subst c10
          have H1 : (if (Int.tmod a1 (ji7)) ≥ ((ji7) / 2) then (some (wrap64 (IntKind.u64.wrap ((Int.tmod a1 (ji7)) - (ji7))))) else (some (wrap64 (Int.tmod a1 (ji7))))) = some r := by rw [if_pos rfl] at H; exact H
          clear H
          have H := H1
          clear H1
          by_cases c11 : (Int.tmod a1 (ji7)) ≥ ((ji7) / 2)
          · rw [if_pos c11] at H
            have c11b0 : decide (((ji7) / 2) ≤ (Int.tmod a1 (ji7))) = true := decide_eq_true c11
            clear c11
            obtain rfl := Option.some.inj H
            simp only [Option.some.injEq, Prod.mk.injEq] at H
            obtain ⟨rfl⟩ := H
            go_enter Try.func58, Try.ntmps58
            go_wp2_with (first | ((with_reducible refine gate_callee (f := 101) rfl ?_); refine goesL_ (some 8) rfl rfl Try.func101 (by kernel_rfl) rfl #[.int .i64 a0] rfl (by (try simp only [List.map_toArray, List.map_cons, List.map_nil]); first | done | rfl | (simp only [List.length_drop, List.length_take]; rfl)) ?_; (with_reducible refine (spec_l1Bits.calls k a0 t102 _ A3.out).mono ?_); rintro e w' ⟨rfl, ⟨nd, rfl⟩⟩; refine ⟨_, rfl, ?_⟩) | ((with_reducible refine gate_callee (f := 102) rfl ?_); refine goesL_ (some 18) rfl rfl Try.func102 (by kernel_rfl) rfl #[.int .i64 a0] rfl (by (try simp only [List.map_toArray, List.map_cons, List.map_nil]); first | done | rfl | (simp only [List.length_drop, List.length_take]; rfl)) ?_; (with_reducible refine (spec_l1Signed.calls a0 true _ A9.out).mono ?_); rintro e w' ⟨rfl, ⟨nd, rfl⟩⟩; refine ⟨_, rfl, ?_⟩))
            go_ret
            exact ⟨by first | rfl | (simp; done) | (simp only [← hji5, ← hji7] <;> (first | rfl | simp)) | (simp [*]; done), by repeat (first | exact Drawn0.refl _ | apply Drawn0.step)⟩
          · rw [if_neg c11] at H
            have c11b0 : decide (((ji7) / 2) ≤ (Int.tmod a1 (ji7))) = false := decide_eq_false c11
            clear c11
            obtain rfl := Option.some.inj H
            simp only [Option.some.injEq, Prod.mk.injEq] at H
            obtain ⟨rfl⟩ := H
            go_enter Try.func58, Try.ntmps58
            go_wp2_with (first | ((with_reducible refine gate_callee (f := 101) rfl ?_); refine goesL_ (some 8) rfl rfl Try.func101 (by kernel_rfl) rfl #[.int .i64 a0] rfl (by (try simp only [List.map_toArray, List.map_cons, List.map_nil]); first | done | rfl | (simp only [List.length_drop, List.length_take]; rfl)) ?_; (with_reducible refine (spec_l1Bits.calls k a0 t102 _ A3.out).mono ?_); rintro e w' ⟨rfl, ⟨nd, rfl⟩⟩; refine ⟨_, rfl, ?_⟩) | ((with_reducible refine gate_callee (f := 102) rfl ?_); refine goesL_ (some 18) rfl rfl Try.func102 (by kernel_rfl) rfl #[.int .i64 a0] rfl (by (try simp only [List.map_toArray, List.map_cons, List.map_nil]); first | done | rfl | (simp only [List.length_drop, List.length_take]; rfl)) ?_; (with_reducible refine (spec_l1Signed.calls a0 true _ A9.out).mono ?_); rintro e w' ⟨rfl, ⟨nd, rfl⟩⟩; refine ⟨_, rfl, ?_⟩))
            go_ret
            exact ⟨by first | rfl | (simp; done) | (simp only [← hji5, ← hji7] <;> (first | rfl | simp)) | (simp [*]; done), by repeat (first | exact Drawn0.refl _ | apply Drawn0.step)⟩
        · replace c10 := Bool.eq_false_iff.mpr c10
          subst c10
          have H1 : (some (wrap64 (Int.tmod a1 (ji7)))) = some r := by rw [if_neg (show ¬ (false = true) by decide)] at H; exact H
          clear H
          have H := H1
          clear H1
          obtain rfl := Option.some.inj H
          simp only [Option.some.injEq, Prod.mk.injEq] at H
          obtain ⟨rfl⟩ := H
          go_enter Try.func58, Try.ntmps58
          go_wp2_with (first | ((with_reducible refine gate_callee (f := 101) rfl ?_); refine goesL_ (some 8) rfl rfl Try.func101 (by kernel_rfl) rfl #[.int .i64 a0] rfl (by (try simp only [List.map_toArray, List.map_cons, List.map_nil]); first | done | rfl | (simp only [List.length_drop, List.length_take]; rfl)) ?_; (with_reducible refine (spec_l1Bits.calls k a0 t102 _ A3.out).mono ?_); rintro e w' ⟨rfl, ⟨nd, rfl⟩⟩; refine ⟨_, rfl, ?_⟩) | ((with_reducible refine gate_callee (f := 102) rfl ?_); refine goesL_ (some 18) rfl rfl Try.func102 (by kernel_rfl) rfl #[.int .i64 a0] rfl (by (try simp only [List.map_toArray, List.map_cons, List.map_nil]); first | done | rfl | (simp only [List.length_drop, List.length_take]; rfl)) ?_; (with_reducible refine (spec_l1Signed.calls a0 false _ A9.out).mono ?_); rintro e w' ⟨rfl, ⟨nd, rfl⟩⟩; refine ⟨_, rfl, ?_⟩))
          go_ret
          exact ⟨by first | rfl | (simp; done) | (simp only [← hji5, ← hji7] <;> (first | rfl | simp)) | (simp [*]; done), by repeat (first | exact Drawn0.refl _ | apply Drawn0.step)⟩
    · rw [if_neg c6] at H
      exact absurd H (by simp)
  · rw [if_neg c4] at H
    have c4b0 : decide (t102 < 64) = false := decide_eq_false c4
    clear c4
    obtain rfl := Option.some.inj H
    simp only [Option.some.injEq, Prod.mk.injEq] at H
    obtain ⟨rfl⟩ := H
    go_enter Try.func58, Try.ntmps58
    go_wp2_with (first | ((with_reducible refine gate_callee (f := 101) rfl ?_); refine goesL_ (some 8) rfl rfl Try.func101 (by kernel_rfl) rfl #[.int .i64 a0] rfl (by (try simp only [List.map_toArray, List.map_cons, List.map_nil]); first | done | rfl | (simp only [List.length_drop, List.length_take]; rfl)) ?_; (with_reducible refine (spec_l1Bits.calls k a0 t102 _ A3.out).mono ?_); rintro e w' ⟨rfl, ⟨nd, rfl⟩⟩; refine ⟨_, rfl, ?_⟩))
    go_ret
    exact ⟨by first | rfl | (simp; done) | (simp [*]; done), by repeat (first | exact Drawn0.refl _ | apply Drawn0.step)⟩

end Go.Proofs.Ytajlomhnednghaa.R
