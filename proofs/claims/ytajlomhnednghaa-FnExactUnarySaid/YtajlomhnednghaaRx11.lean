-- Printed by a program of this session (wip/tools/myprint.sh) out of the translation: Lean checks it.
import Derived.Test.YtajlomhnednghaaRx0
import Derived.Test.YtajlomhnednghaaRx9
import Derived.Test.YtajlomhnednghaaRx10
namespace Go.Proofs.Ytajlomhnednghaa.R
open Go.RowKit Go.Proofs.YtajlomhnednghaaW.PrintWords Go.Proofs.YtajlomhnednghaaW.PrintLast Go.Proofs.YtajlomhnednghaaW.PrintMore
attribute [local go_sem] max2_int min2_int max_two min_two max_three min_three max_four min_four   -- for this text's walks alone
set_option linter.unusedVariables false
set_option linter.unusedSimpArgs false

/-! ### impl_into: function 60 -/
def impl_into.f (k : Nat) (a0 : Int) (a1 : Int) : Option (Int) := (impl_bits.f k a1).bind fun t110 => (if t110 = 64 then (some (wrap64 (a0))) else (if 0 ≤ t110 then ((impl_signed.f a1).bind fun t111 => (if t111 = true then (if 0 ≤ (IntKind.u64.wrap (t110 - 1)) then (if (shr .u64 (Go.bits .and .u64 a0 (IntKind.u64.wrap ((shl .u64 1 t110) - 1))) (IntKind.u64.wrap (t110 - 1))) = 1 then (some (wrap64 (Go.bits .or .u64 (Go.bits .and .u64 a0 (IntKind.u64.wrap ((shl .u64 1 t110) - 1))) (shl .u64 18446744073709551615 t110)))) else (some (wrap64 (Go.bits .and .u64 a0 (IntKind.u64.wrap ((shl .u64 1 t110) - 1)))))) else (none)) else (some (wrap64 (Go.bits .and .u64 a0 (IntKind.u64.wrap ((shl .u64 1 t110) - 1))))))) else (none)))
theorem impl_into.mono : ∀ a0 a1 k, LeO (impl_into.f k a0 a1) (impl_into.f (k + 1) a0 a1) := by
  intro a0 a1 k
  unfold impl_into.f
  repeat' first
      | (with_reducible exact impl_bits.mono _ _)
      | (with_reducible exact LeO.refl _)
      | (with_reducible exact LeO.none _)
      | (with_reducible refine LeO.ite ?_ ?_)
      | (with_reducible refine LeO.bind ?_ (fun _ => ?_))
      | exact impl_bits.mono _ _
      | exact LeO.none _
      | refine LeO.ite ?_ ?_
      | refine LeO.bind ?_ (fun _ => ?_)
set_option maxHeartbeats 8000000 in
set_option maxRecDepth 100000 in
theorem impl_into.calls (k : Nat) (a0 : Int) (a1 : Int) (r : Int) (w : World) (h : impl_into.f k a0 a1 = some r) :
    Calls Try.prog 60 #[.int .u64 a0, .int .i64 a1] w fun e w' => e = .returned (.int .i64 r) ∧ Drawn0 w w' := by
  have H : ((impl_bits.f k a1).bind fun t110 => (if t110 = 64 then (some (wrap64 (a0))) else (if 0 ≤ t110 then ((impl_signed.f a1).bind fun t111 => (if t111 = true then (if 0 ≤ (IntKind.u64.wrap (t110 - 1)) then (if (shr .u64 (Go.bits .and .u64 a0 (IntKind.u64.wrap ((shl .u64 1 t110) - 1))) (IntKind.u64.wrap (t110 - 1))) = 1 then (some (wrap64 (Go.bits .or .u64 (Go.bits .and .u64 a0 (IntKind.u64.wrap ((shl .u64 1 t110) - 1))) (shl .u64 18446744073709551615 t110)))) else (some (wrap64 (Go.bits .and .u64 a0 (IntKind.u64.wrap ((shl .u64 1 t110) - 1)))))) else (none)) else (some (wrap64 (Go.bits .and .u64 a0 (IntKind.u64.wrap ((shl .u64 1 t110) - 1))))))) else (none)))) = some r := h
  clear h
  replace H := Option.bind_eq_some_iff.mp H
  obtain ⟨t110, A30, H⟩ := H
  replace H : (if t110 = 64 then (some (wrap64 (a0))) else (if 0 ≤ t110 then ((impl_signed.f a1).bind fun t111 => (if t111 = true then (if 0 ≤ (IntKind.u64.wrap (t110 - 1)) then (if (shr .u64 (Go.bits .and .u64 a0 (IntKind.u64.wrap ((shl .u64 1 t110) - 1))) (IntKind.u64.wrap (t110 - 1))) = 1 then (some (wrap64 (Go.bits .or .u64 (Go.bits .and .u64 a0 (IntKind.u64.wrap ((shl .u64 1 t110) - 1))) (shl .u64 18446744073709551615 t110)))) else (some (wrap64 (Go.bits .and .u64 a0 (IntKind.u64.wrap ((shl .u64 1 t110) - 1)))))) else (none)) else (some (wrap64 (Go.bits .and .u64 a0 (IntKind.u64.wrap ((shl .u64 1 t110) - 1))))))) else (none))) = some r := H
  have A3 := Aside0.mk A30
  clear A30
  by_cases c4 : t110 = 64
  · rw [if_pos c4] at H
    have c4b0 : (t110 == 64) = true := beq_iff_eq.mpr c4
    have c4b1 : (t110 != 64) = false := bne_eq_false_iff_eq.mpr c4
    clear c4
    obtain rfl := Option.some.inj H
    simp only [Option.some.injEq, Prod.mk.injEq] at H
    obtain ⟨rfl⟩ := H
    go_enter Try.func60, Try.ntmps60
    go_wp2_with (first | ((with_reducible refine gate_callee (f := 103) rfl ?_); refine goesL_ (some 7) rfl rfl Try.func103 (by kernel_rfl) rfl #[.int .i64 a1] rfl (by (try simp only [List.map_toArray, List.map_cons, List.map_nil]); first | done | rfl | (simp only [List.length_drop, List.length_take]; rfl)) ?_; (with_reducible refine (impl_bits.calls k a1 t110 _ A3.out).mono ?_); rintro e w' ⟨rfl, ⟨nd, rfl⟩⟩; refine ⟨_, rfl, ?_⟩))
    go_ret
    exact ⟨by first | rfl | (simp; done) | (simp [*]; done), by repeat (first | exact Drawn0.refl _ | apply Drawn0.step)⟩
  · rw [if_neg c4] at H
    have c4b0 : (t110 == 64) = false := beq_eq_false_iff_ne.mpr c4
    have c4b1 : (t110 != 64) = true := bne_iff_ne.mpr c4
    by_cases c5 : 0 ≤ t110
    · rw [if_pos c5] at H
      have c5b0 := eq_true c5
      have c5b1 : decide (0 ≤ t110) = true := decide_eq_true c5
      clear c5
      obtain ⟨ji6, hji6⟩ : ∃ j_ : Int, (shl .u64 1 t110) = j_ := ⟨_, rfl⟩
      replace H : ((impl_signed.f a1).bind fun t111 => (if t111 = true then (if 0 ≤ (IntKind.u64.wrap (t110 - 1)) then (if (shr .u64 (Go.bits .and .u64 a0 (IntKind.u64.wrap ((ji6) - 1))) (IntKind.u64.wrap (t110 - 1))) = 1 then (some (wrap64 (Go.bits .or .u64 (Go.bits .and .u64 a0 (IntKind.u64.wrap ((ji6) - 1))) (shl .u64 18446744073709551615 t110)))) else (some (wrap64 (Go.bits .and .u64 a0 (IntKind.u64.wrap ((ji6) - 1)))))) else (none)) else (some (wrap64 (Go.bits .and .u64 a0 (IntKind.u64.wrap ((ji6) - 1))))))) = some r := by first | (rw [hji6] at H; exact H) | (simp only [hji6] at H ⊢; exact H)
      (try rw [hji6] at A3)
      have hji6nn : 0 ≤ ji6 := by rw [← hji6]; unfold shl IntKind.wrap; simp only [IntKind.bits, IntKind.signed]; simp; omega
      have hji6nm : ji6 ≤ 18446744073709551615 := by rw [← hji6]; unfold shl IntKind.wrap; simp only [IntKind.bits, IntKind.signed]; simp; omega
      have hji6_ : (IntKind.u64.wrap (1 * 2 ^ min t110.toNat 64)) = ji6 := hji6
      have hji6z : t110 ≤ 64 → (IntKind.u64.wrap (1 * 2 ^ t110.toNat)) = ji6 := shl_small hji6
      have hji6u : (IntKind.u64.wrap (2 ^ min t110.toNat 64)) = ji6 := by have h_ := hji6_; rw [Int.one_mul] at h_; exact h_
      have hji6v : t110 ≤ 64 → (IntKind.u64.wrap (2 ^ t110.toNat)) = ji6 := fun hle_ => by have h_ := hji6z hle_; rw [Int.one_mul] at h_; exact h_
      replace H := Option.bind_eq_some_iff.mp H
      obtain ⟨t111, A70, H⟩ := H
      replace H : (if t111 = true then (if 0 ≤ (IntKind.u64.wrap (t110 - 1)) then (if (shr .u64 (Go.bits .and .u64 a0 (IntKind.u64.wrap ((ji6) - 1))) (IntKind.u64.wrap (t110 - 1))) = 1 then (some (wrap64 (Go.bits .or .u64 (Go.bits .and .u64 a0 (IntKind.u64.wrap ((ji6) - 1))) (shl .u64 18446744073709551615 t110)))) else (some (wrap64 (Go.bits .and .u64 a0 (IntKind.u64.wrap ((ji6) - 1)))))) else (none)) else (some (wrap64 (Go.bits .and .u64 a0 (IntKind.u64.wrap ((ji6) - 1)))))) = some r := H
      have A7 := Aside0.mk A70
      clear A70
      by_cases c8 : t111 = true
      · subst c8
        have H1 : (if 0 ≤ (IntKind.u64.wrap (t110 - 1)) then (if (shr .u64 (Go.bits .and .u64 a0 (IntKind.u64.wrap ((ji6) - 1))) (IntKind.u64.wrap (t110 - 1))) = 1 then (some (wrap64 (Go.bits .or .u64 (Go.bits .and .u64 a0 (IntKind.u64.wrap ((ji6) - 1))) (shl .u64 18446744073709551615 t110)))) else (some (wrap64 (Go.bits .and .u64 a0 (IntKind.u64.wrap ((ji6) - 1)))))) else (none)) = some r := by rw [if_pos rfl] at H; exact H
        clear H
        have H := H1
        clear H1
        obtain ⟨ji9, hji9⟩ : ∃ j_ : Int, (IntKind.u64.wrap (t110 - 1)) = j_ := ⟨_, rfl⟩
        replace H : (if 0 ≤ (ji9) then (if (shr .u64 (Go.bits .and .u64 a0 (IntKind.u64.wrap ((ji6) - 1))) (ji9)) = 1 then (some (wrap64 (Go.bits .or .u64 (Go.bits .and .u64 a0 (IntKind.u64.wrap ((ji6) - 1))) (shl .u64 18446744073709551615 t110)))) else (some (wrap64 (Go.bits .and .u64 a0 (IntKind.u64.wrap ((ji6) - 1)))))) else (none)) = some r := by first | (rw [hji9] at H; exact H) | (simp only [hji9] at H ⊢; exact H)
        (try rw [hji9] at A3)
        (try rw [hji9] at A7)
        by_cases c10 : 0 ≤ (ji9)
        · rw [if_pos c10] at H
          have c10b0 := eq_true c10
          have c10b1 : decide (0 ≤ (ji9)) = true := decide_eq_true c10
          clear c10
          obtain ⟨ji11, hji11⟩ : ∃ j_ : Int, (shr .u64 (Go.bits .and .u64 a0 (IntKind.u64.wrap ((ji6) - 1))) (ji9)) = j_ := ⟨_, rfl⟩
          replace H : (if (ji11) = 1 then (some (wrap64 (Go.bits .or .u64 (Go.bits .and .u64 a0 (IntKind.u64.wrap ((ji6) - 1))) (shl .u64 18446744073709551615 t110)))) else (some (wrap64 (Go.bits .and .u64 a0 (IntKind.u64.wrap ((ji6) - 1)))))) = some r := by first | (rw [hji11] at H; exact H) | (simp only [hji11] at H ⊢; exact H)
          (try rw [hji11] at A3)
          (try rw [hji11] at A7)
          have hji11_ : ((Go.bits .and .u64 a0 (IntKind.u64.wrap ((ji6) - 1))) / 2 ^ min (ji9).toNat 64) = ji11 := hji11
          have hji11z : (ji9) ≤ 64 → ((Go.bits .and .u64 a0 (IntKind.u64.wrap ((ji6) - 1))) / 2 ^ (ji9).toNat) = ji11 := shr_small hji11
          by_cases c12 : (ji11) = 1
          · rw [if_pos c12] at H
            have c12b0 : ((ji11) == 1) = true := beq_iff_eq.mpr c12
            have c12b1 : ((ji11) != 1) = false := bne_eq_false_iff_eq.mpr c12
            clear c12
            have c13b0 := eq_true (of_decide_eq_true (by first | (with_reducible assumption) | assumption) : 0 ≤ t110)
            obtain ⟨ji14, hji14⟩ : ∃ j_ : Int, (shl .u64 18446744073709551615 t110) = j_ := ⟨_, rfl⟩
            replace H : (some (wrap64 (Go.bits .or .u64 (Go.bits .and .u64 a0 (IntKind.u64.wrap ((ji6) - 1))) (ji14)))) = some r := by first | (rw [hji14] at H; exact H) | (simp only [hji14] at H ⊢; exact H)
            (try rw [hji14] at A3)
            (try rw [hji14] at A7)
            have hji14nn : 0 ≤ ji14 := by rw [← hji14]; unfold shl IntKind.wrap; simp only [IntKind.bits, IntKind.signed]; simp; omega
            have hji14nm : ji14 ≤ 18446744073709551615 := by rw [← hji14]; unfold shl IntKind.wrap; simp only [IntKind.bits, IntKind.signed]; simp; omega
            have hji14_ : (IntKind.u64.wrap (18446744073709551615 * 2 ^ min t110.toNat 64)) = ji14 := hji14
            have hji14z : t110 ≤ 64 → (IntKind.u64.wrap (18446744073709551615 * 2 ^ t110.toNat)) = ji14 := shl_small hji14
            obtain rfl := Option.some.inj H
            simp only [Option.some.injEq, Prod.mk.injEq] at H
            obtain ⟨rfl⟩ := H
            go_enter Try.func60, Try.ntmps60
            go_wp2_with (first | ((with_reducible refine gate_callee (f := 103) rfl ?_); refine goesL_ (some 7) rfl rfl Try.func103 (by kernel_rfl) rfl #[.int .i64 a1] rfl (by (try simp only [List.map_toArray, List.map_cons, List.map_nil]); first | done | rfl | (simp only [List.length_drop, List.length_take]; rfl)) ?_; (with_reducible refine (impl_bits.calls k a1 t110 _ A3.out).mono ?_); rintro e w' ⟨rfl, ⟨nd, rfl⟩⟩; refine ⟨_, rfl, ?_⟩) | ((with_reducible refine gate_callee (f := 104) rfl ?_); refine goesL_ (some 18) rfl rfl Try.func104 (by kernel_rfl) rfl #[.int .i64 a1] rfl (by (try simp only [List.map_toArray, List.map_cons, List.map_nil]); first | done | rfl | (simp only [List.length_drop, List.length_take]; rfl)) ?_; (with_reducible refine (impl_signed.calls a1 true _ A7.out).mono ?_); rintro e w' ⟨rfl, ⟨nd, rfl⟩⟩; refine ⟨_, rfl, ?_⟩))
            go_ret
            exact ⟨by first | rfl | (simp; done) | (simp only [← hji6, ← hji9, ← hji11, ← hji14] <;> (first | rfl | simp)) | (simp [*]; done), by repeat (first | exact Drawn0.refl _ | apply Drawn0.step)⟩
          · rw [if_neg c12] at H
            have c12b0 : ((ji11) == 1) = false := beq_eq_false_iff_ne.mpr c12
            have c12b1 : ((ji11) != 1) = true := bne_iff_ne.mpr c12
            obtain rfl := Option.some.inj H
            simp only [Option.some.injEq, Prod.mk.injEq] at H
            obtain ⟨rfl⟩ := H
            go_enter Try.func60, Try.ntmps60
            go_wp2_with (first | ((with_reducible refine gate_callee (f := 103) rfl ?_); refine goesL_ (some 7) rfl rfl Try.func103 (by kernel_rfl) rfl #[.int .i64 a1] rfl (by (try simp only [List.map_toArray, List.map_cons, List.map_nil]); first | done | rfl | (simp only [List.length_drop, List.length_take]; rfl)) ?_; (with_reducible refine (impl_bits.calls k a1 t110 _ A3.out).mono ?_); rintro e w' ⟨rfl, ⟨nd, rfl⟩⟩; refine ⟨_, rfl, ?_⟩) | ((with_reducible refine gate_callee (f := 104) rfl ?_); refine goesL_ (some 18) rfl rfl Try.func104 (by kernel_rfl) rfl #[.int .i64 a1] rfl (by (try simp only [List.map_toArray, List.map_cons, List.map_nil]); first | done | rfl | (simp only [List.length_drop, List.length_take]; rfl)) ?_; (with_reducible refine (impl_signed.calls a1 true _ A7.out).mono ?_); rintro e w' ⟨rfl, ⟨nd, rfl⟩⟩; refine ⟨_, rfl, ?_⟩))
            go_ret
            exact ⟨by first | rfl | (simp; done) | (simp only [← hji6, ← hji9, ← hji11] <;> (first | rfl | simp)) | (simp [*]; done), by repeat (first | exact Drawn0.refl _ | apply Drawn0.step)⟩
        · rw [if_neg c10] at H
          exact absurd H (by simp)
      · replace c8 := Bool.eq_false_iff.mpr c8
        subst c8
        have H1 : (some (wrap64 (Go.bits .and .u64 a0 (IntKind.u64.wrap ((ji6) - 1))))) = some r := by rw [if_neg (show ¬ (false = true) by decide)] at H; exact H
        clear H
        have H := H1
        clear H1
        obtain rfl := Option.some.inj H
        simp only [Option.some.injEq, Prod.mk.injEq] at H
        obtain ⟨rfl⟩ := H
        go_enter Try.func60, Try.ntmps60
        go_wp2_with (first | ((with_reducible refine gate_callee (f := 103) rfl ?_); refine goesL_ (some 7) rfl rfl Try.func103 (by kernel_rfl) rfl #[.int .i64 a1] rfl (by (try simp only [List.map_toArray, List.map_cons, List.map_nil]); first | done | rfl | (simp only [List.length_drop, List.length_take]; rfl)) ?_; (with_reducible refine (impl_bits.calls k a1 t110 _ A3.out).mono ?_); rintro e w' ⟨rfl, ⟨nd, rfl⟩⟩; refine ⟨_, rfl, ?_⟩) | ((with_reducible refine gate_callee (f := 104) rfl ?_); refine goesL_ (some 18) rfl rfl Try.func104 (by kernel_rfl) rfl #[.int .i64 a1] rfl (by (try simp only [List.map_toArray, List.map_cons, List.map_nil]); first | done | rfl | (simp only [List.length_drop, List.length_take]; rfl)) ?_; (with_reducible refine (impl_signed.calls a1 false _ A7.out).mono ?_); rintro e w' ⟨rfl, ⟨nd, rfl⟩⟩; refine ⟨_, rfl, ?_⟩))
        go_ret
        exact ⟨by first | rfl | (simp; done) | (simp only [← hji6] <;> (first | rfl | simp)) | (simp [*]; done), by repeat (first | exact Drawn0.refl _ | apply Drawn0.step)⟩
    · rw [if_neg c5] at H
      exact absurd H (by simp)

end Go.Proofs.Ytajlomhnednghaa.R
