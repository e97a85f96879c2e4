/- Texts of this session, put together (wip/tools/pack.py): Bx23d. Conditions: none. -/
import Derived.Test.YtajlomhnednghaaBim1
import Derived.Test.YtajlomhnednghaaBim2
namespace Go.Proofs.Ytajlomhnednghaa.B
open Go.RowKit Go.Proofs.YtajlomhnednghaaW.PrintWords Go.Proofs.YtajlomhnednghaaW.PrintLast Go.Proofs.YtajlomhnednghaaW.PrintMore
attribute [local go_sem] max2_int min2_int max_two min_two max_three min_three max_four min_four   -- for this text's walks alone
set_option linter.unusedVariables false
set_option linter.unusedSimpArgs false

/-! ### spec_DrawBinary: function 54 -/
mutual
def spec_DrawBinary.j0 : Nat → Int → Int → List Int → Int → Option (Int × Int × Int × ByteArray × Int × Int × ByteArray)
  | 0, _, _, _, _ => none
  | k + 1, x6, x7, x227000, x227001 => (spec_l4Any.f k x227000 x227001 x7).bind fun bt233 => ((spec_l1Rd_pick.f k x227000 bt233.2.2.2 16).bind fun bt238 => (if bt238.1 = 0 then ((spec_l1Rd_pick.f k x227000 bt238.2 10).bind fun bt240 => (spec_DrawBinary.j1 k x6 (wrap64 (1 + bt240.1)) x227000 bt240.2 bt233.1 bt233.2.1 bt233.2.2.1)) else (spec_DrawBinary.j1 k x6 x7 x227000 bt238.2 bt233.1 bt233.2.1 bt233.2.2.1)))
def spec_DrawBinary.j1 : Nat → Int → Int → List Int → Int → Int → Int → ByteArray → Option (Int × Int × Int × ByteArray × Int × Int × ByteArray)
  | 0, _, _, _, _, _, _, _ => none
  | k + 1, x6, x7, x227000, x227001, x238000, x238001, x238002 => (spec_l4Any.f k x227000 x227001 x7).bind fun bt242 => (if x6 ≥ 17 then ((spec_l1Integer.f bt242.1).bind fun t247 => (if t247 = true then ((spec_l1Rd_pick.f k x227000 bt242.2.2.2 2).bind fun bt248 => (spec_DrawBinary.j2 k x6 x7 (bt248.1 == 0) x227000 bt248.2 x238000 x238001 x238002 bt242.1 bt242.2.1 bt242.2.2.1)) else (spec_DrawBinary.j2 k x6 x7 false x227000 bt242.2.2.2 x238000 x238001 x238002 bt242.1 bt242.2.1 bt242.2.2.1))) else (spec_DrawBinary.j2 k x6 x7 false x227000 bt242.2.2.2 x238000 x238001 x238002 bt242.1 bt242.2.1 bt242.2.2.1))
def spec_DrawBinary.j2 : Nat → Int → Int → Bool → List Int → Int → Int → Int → ByteArray → Int → Int → ByteArray → Option (Int × Int × Int × ByteArray × Int × Int × ByteArray)
  | 0, _, _, _, _, _, _, _, _, _, _, _ => none
  | k + 1, x6, x7, x50, x227000, x227001, x238000, x238001, x238002, x247000, x247001, x247002 => if x50 = true then ((spec_l1Rd_pick.f k x227000 x227001 70).bind fun bt250 => ((spec_l1Max.f k x7).bind fun t252 => (if (wrap64 (IntKind.u64.wrap ((Int.tmod t252 71) + 1))) = 0 then (none) else (spec_DrawBinary.j3 k x6 x7 x227000 bt250.2 x238000 x238001 x238002 x247000 (Int.tmod bt250.1 (wrap64 (IntKind.u64.wrap ((Int.tmod t252 71) + 1)))) x247002)))) else (spec_DrawBinary.j3 k x6 x7 x227000 x227001 x238000 x238001 x238002 x247000 x247001 x247002)
def spec_DrawBinary.j3 : Nat → Int → Int → List Int → Int → Int → Int → ByteArray → Int → Int → ByteArray → Option (Int × Int × Int × ByteArray × Int × Int × ByteArray)
  | 0, _, _, _, _, _, _, _, _, _, _ => none
  | k + 1, x6, x7, x227000, x227001, x238000, x238001, x238002, x247000, x247001, x247002 => if x6 ≥ 17 then ((spec_l1Integer.f x247000).bind fun t253 => (if t253 = true then (if x247000 = x238000 then ((spec_l1Rd_pick.f k x227000 x227001 6).bind fun bt254 => (spec_DrawBinary.j4 k x6 x7 (bt254.1 == 0) x227000 bt254.2 x238000 x238001 x238002 x247000 x247001 x247002)) else (spec_DrawBinary.j4 k x6 x7 false x227000 x227001 x238000 x238001 x238002 x247000 x247001 x247002)) else (spec_DrawBinary.j4 k x6 x7 false x227000 x227001 x238000 x238001 x238002 x247000 x247001 x247002))) else (spec_DrawBinary.j4 k x6 x7 false x227000 x227001 x238000 x238001 x238002 x247000 x247001 x247002)
def spec_DrawBinary.j4 : Nat → Int → Int → Bool → List Int → Int → Int → Int → ByteArray → Int → Int → ByteArray → Option (Int × Int × Int × ByteArray × Int × Int × ByteArray)
  | 0, _, _, _, _, _, _, _, _, _, _, _ => none
  | k + 1, x6, x7, x78, x227000, x227001, x238000, x238001, x238002, x247000, x247001, x247002 => if x78 = true then ((some (([8, 16, 32, 64, 7, 15, 31, 63] : List Int) : List Int)).bind fun y256 => ((spec_l1Rd_pick.f k x227000 x227001 8).bind fun bt259 => (if 0 ≤ bt259.1 then (if bt259.1 < (y256.length : Int) then ((spec_l1Max.f k x7).bind fun t262 => (if (rd y256 bt259.1) > (wrap64 (t262 / 2)) then ((some (([1, 5, 100] : List Int) : List Int)).bind fun y263 => ((spec_l1Rd_pick.f k x227000 bt259.2 3).bind fun bt266 => (if 0 ≤ bt266.1 then (if bt266.1 < (y263.length : Int) then (if x7 ≥ 7 then (spec_DrawBinary.j5 k x6 x227000 bt266.2 x238000 (wrap64 (-(rd y263 bt266.1))) x238002 x247000 8 x247002) else (spec_DrawBinary.j5 k x6 x227000 bt266.2 x238000 (rd y263 bt266.1) x238002 x247000 8 x247002)) else (none)) else (none)))) else ((some (([1, 5, 100] : List Int) : List Int)).bind fun y269 => ((spec_l1Rd_pick.f k x227000 bt259.2 3).bind fun bt272 => (if 0 ≤ bt272.1 then (if bt272.1 < (y269.length : Int) then (if x7 ≥ 7 then (spec_DrawBinary.j5 k x6 x227000 bt272.2 x238000 (wrap64 (-(rd y269 bt272.1))) x238002 x247000 (rd y256 bt259.1) x247002) else (spec_DrawBinary.j5 k x6 x227000 bt272.2 x238000 (rd y269 bt272.1) x238002 x247000 (rd y256 bt259.1) x247002)) else (none)) else (none)))))) else (none)) else (none)))) else (spec_DrawBinary.j5 k x6 x227000 x227001 x238000 x238001 x238002 x247000 x247001 x247002)
def spec_DrawBinary.j5 : Nat → Int → List Int → Int → Int → Int → ByteArray → Int → Int → ByteArray → Option (Int × Int × Int × ByteArray × Int × Int × ByteArray)
  | 0, _, _, _, _, _, _, _, _, _ => none
  | k + 1, x6, x227000, x227001, x238000, x238001, x238002, x247000, x247001, x247002 => if x6 ≤ 8 then ((spec_l1Rd_pick.f k x227000 x227001 4).bind fun bt275 => (spec_DrawBinary.j6 k x6 (bt275.1 == 0) x227000 bt275.2 x238000 x238001 x238002 x247000 x247001 x247002)) else (spec_DrawBinary.j6 k x6 false x227000 x227001 x238000 x238001 x238002 x247000 x247001 x247002)
def spec_DrawBinary.j6 : Nat → Int → Bool → List Int → Int → Int → Int → ByteArray → Int → Int → ByteArray → Option (Int × Int × Int × ByteArray × Int × Int × ByteArray)
  | 0, _, _, _, _, _, _, _, _, _, _ => none
  | k + 1, x6, x111, x227000, x227001, x238000, x238001, x238002, x247000, x247001, x247002 => if x111 = true then (spec_DrawBinary.j7 k x6 x227000 x227001 x238000 x238001 x238002 x238000 x238001 x238002) else (spec_DrawBinary.j7 k x6 x227000 x227001 x238000 x238001 x238002 x247000 x247001 x247002)
def spec_DrawBinary.j7 : Nat → Int → List Int → Int → Int → Int → ByteArray → Int → Int → ByteArray → Option (Int × Int × Int × ByteArray × Int × Int × ByteArray)
  | 0, _, _, _, _, _, _, _, _, _ => none
  | k + 1, x6, x227000, x227001, x238000, x238001, x238002, x247000, x247001, x247002 => (spec_l1Rd_pick.f k x227000 x227001 24).bind fun bt277 => (if bt277.1 = 0 then ((spec_l1Rd_pick.f k x227000 bt277.2 22).bind fun bt279 => (some (wrap64 (bt279.1 - 1), x238000, x238001, x238002, x247000, x247001, x247002))) else (some (x6, x238000, x238001, x238002, x247000, x247001, x247002)))
end
def spec_DrawBinary.f (k : Nat) (l0 : List Int) : Option (Int × Int × Int × ByteArray × Int × Int × ByteArray) := (spec_l1Open.f l0).bind fun bt224 => ((spec_l1Rd_pick.f k bt224.1 bt224.2 18).bind fun bt227 => ((spec_l1Rd_pick.f k bt224.1 bt227.2 8).bind fun bt229 => (if (wrap64 (1 + bt227.1)) ≤ 2 then (spec_DrawBinary.j0 k (wrap64 (1 + bt227.1)) 1 bt224.1 bt229.2) else (if (wrap64 (1 + bt227.1)) ≤ 9 then ((spec_l1Rd_pick.f k bt224.1 bt229.2 3).bind fun bt231 => (if bt231.1 = 0 then (spec_DrawBinary.j0 k (wrap64 (1 + bt227.1)) 2 bt224.1 bt231.2) else (spec_DrawBinary.j0 k (wrap64 (1 + bt227.1)) (wrap64 (3 + bt229.1)) bt224.1 bt231.2))) else (spec_DrawBinary.j0 k (wrap64 (1 + bt227.1)) (wrap64 (3 + bt229.1)) bt224.1 bt229.2)))))
theorem spec_DrawBinary.mono_l : ∀ k, (∀ y0 y1 y2 y3, LeO (spec_DrawBinary.j0 k y0 y1 y2 y3) (spec_DrawBinary.j0 (k + 1) y0 y1 y2 y3)) ∧ (∀ y0 y1 y2 y3 y4 y5 y6, LeO (spec_DrawBinary.j1 k y0 y1 y2 y3 y4 y5 y6) (spec_DrawBinary.j1 (k + 1) y0 y1 y2 y3 y4 y5 y6)) ∧ (∀ y0 y1 y2 y3 y4 y5 y6 y7 y8 y9 y10, LeO (spec_DrawBinary.j2 k y0 y1 y2 y3 y4 y5 y6 y7 y8 y9 y10) (spec_DrawBinary.j2 (k + 1) y0 y1 y2 y3 y4 y5 y6 y7 y8 y9 y10)) ∧ (∀ y0 y1 y2 y3 y4 y5 y6 y7 y8 y9, LeO (spec_DrawBinary.j3 k y0 y1 y2 y3 y4 y5 y6 y7 y8 y9) (spec_DrawBinary.j3 (k + 1) y0 y1 y2 y3 y4 y5 y6 y7 y8 y9)) ∧ (∀ y0 y1 y2 y3 y4 y5 y6 y7 y8 y9 y10, LeO (spec_DrawBinary.j4 k y0 y1 y2 y3 y4 y5 y6 y7 y8 y9 y10) (spec_DrawBinary.j4 (k + 1) y0 y1 y2 y3 y4 y5 y6 y7 y8 y9 y10)) ∧ (∀ y0 y1 y2 y3 y4 y5 y6 y7 y8, LeO (spec_DrawBinary.j5 k y0 y1 y2 y3 y4 y5 y6 y7 y8) (spec_DrawBinary.j5 (k + 1) y0 y1 y2 y3 y4 y5 y6 y7 y8)) ∧ (∀ y0 y1 y2 y3 y4 y5 y6 y7 y8 y9, LeO (spec_DrawBinary.j6 k y0 y1 y2 y3 y4 y5 y6 y7 y8 y9) (spec_DrawBinary.j6 (k + 1) y0 y1 y2 y3 y4 y5 y6 y7 y8 y9)) ∧ (∀ y0 y1 y2 y3 y4 y5 y6 y7 y8, LeO (spec_DrawBinary.j7 k y0 y1 y2 y3 y4 y5 y6 y7 y8) (spec_DrawBinary.j7 (k + 1) y0 y1 y2 y3 y4 y5 y6 y7 y8))
  | 0 => ⟨fun _ _ _ _ r h => by simp [spec_DrawBinary.j0] at h, fun _ _ _ _ _ _ _ r h => by simp [spec_DrawBinary.j1] at h, fun _ _ _ _ _ _ _ _ _ _ _ r h => by simp [spec_DrawBinary.j2] at h, fun _ _ _ _ _ _ _ _ _ _ r h => by simp [spec_DrawBinary.j3] at h, fun _ _ _ _ _ _ _ _ _ _ _ r h => by simp [spec_DrawBinary.j4] at h, fun _ _ _ _ _ _ _ _ _ r h => by simp [spec_DrawBinary.j5] at h, fun _ _ _ _ _ _ _ _ _ _ r h => by simp [spec_DrawBinary.j6] at h, fun _ _ _ _ _ _ _ _ _ r h => by simp [spec_DrawBinary.j7] at h⟩
  | k + 1 => by
    obtain ⟨ih0, ih1, ih2, ih3, ih4, ih5, ih6, ih7⟩ := spec_DrawBinary.mono_l k
    refine ⟨?_, ?_, ?_, ?_, ?_, ?_, ?_, ?_⟩
    · intro y0 y1 y2 y3
      unfold spec_DrawBinary.j0
      repeat' first
      | (with_reducible exact ih0 _ _ _ _)
      | (with_reducible exact ih1 _ _ _ _ _ _ _)
      | (with_reducible exact ih2 _ _ _ _ _ _ _ _ _ _ _)
      | (with_reducible exact ih3 _ _ _ _ _ _ _ _ _ _)
      | (with_reducible exact ih4 _ _ _ _ _ _ _ _ _ _ _)
      | (with_reducible exact ih5 _ _ _ _ _ _ _ _ _)
      | (with_reducible exact ih6 _ _ _ _ _ _ _ _ _ _)
      | (with_reducible exact ih7 _ _ _ _ _ _ _ _ _)
      | (with_reducible exact spec_l1Max.mono _ _)
      | (with_reducible exact spec_l1Rd_pick.mono _ _ _ _)
      | (with_reducible exact spec_l4Any.mono _ _ _ _)
      | (with_reducible exact LeO.refl _)
      | (with_reducible exact LeO.none _)
      | (with_reducible refine LeO.ite ?_ ?_)
      | (with_reducible refine LeO.bind ?_ (fun _ => ?_))
      | exact ih0 _ _ _ _
      | exact ih1 _ _ _ _ _ _ _
      | exact ih2 _ _ _ _ _ _ _ _ _ _ _
      | exact ih3 _ _ _ _ _ _ _ _ _ _
      | exact ih4 _ _ _ _ _ _ _ _ _ _ _
      | exact ih5 _ _ _ _ _ _ _ _ _
      | exact ih6 _ _ _ _ _ _ _ _ _ _
      | exact ih7 _ _ _ _ _ _ _ _ _
      | exact spec_l1Max.mono _ _
      | exact spec_l1Rd_pick.mono _ _ _ _
      | exact spec_l4Any.mono _ _ _ _
      | exact LeO.none _
      | refine LeO.ite ?_ ?_
      | refine LeO.bind ?_ (fun _ => ?_)
    · intro y0 y1 y2 y3 y4 y5 y6
      unfold spec_DrawBinary.j1
      repeat' first
      | (with_reducible exact ih0 _ _ _ _)
      | (with_reducible exact ih1 _ _ _ _ _ _ _)
      | (with_reducible exact ih2 _ _ _ _ _ _ _ _ _ _ _)
      | (with_reducible exact ih3 _ _ _ _ _ _ _ _ _ _)
      | (with_reducible exact ih4 _ _ _ _ _ _ _ _ _ _ _)
      | (with_reducible exact ih5 _ _ _ _ _ _ _ _ _)
      | (with_reducible exact ih6 _ _ _ _ _ _ _ _ _ _)
      | (with_reducible exact ih7 _ _ _ _ _ _ _ _ _)
      | (with_reducible exact spec_l1Max.mono _ _)
      | (with_reducible exact spec_l1Rd_pick.mono _ _ _ _)
      | (with_reducible exact spec_l4Any.mono _ _ _ _)
      | (with_reducible exact LeO.refl _)
      | (with_reducible exact LeO.none _)
      | (with_reducible refine LeO.ite ?_ ?_)
      | (with_reducible refine LeO.bind ?_ (fun _ => ?_))
      | exact ih0 _ _ _ _
      | exact ih1 _ _ _ _ _ _ _
      | exact ih2 _ _ _ _ _ _ _ _ _ _ _
      | exact ih3 _ _ _ _ _ _ _ _ _ _
      | exact ih4 _ _ _ _ _ _ _ _ _ _ _
      | exact ih5 _ _ _ _ _ _ _ _ _
      | exact ih6 _ _ _ _ _ _ _ _ _ _
      | exact ih7 _ _ _ _ _ _ _ _ _
      | exact spec_l1Max.mono _ _
      | exact spec_l1Rd_pick.mono _ _ _ _
      | exact spec_l4Any.mono _ _ _ _
      | exact LeO.none _
      | refine LeO.ite ?_ ?_
      | refine LeO.bind ?_ (fun _ => ?_)
    · intro y0 y1 y2 y3 y4 y5 y6 y7 y8 y9 y10
      unfold spec_DrawBinary.j2
      repeat' first
      | (with_reducible exact ih0 _ _ _ _)
      | (with_reducible exact ih1 _ _ _ _ _ _ _)
      | (with_reducible exact ih2 _ _ _ _ _ _ _ _ _ _ _)
      | (with_reducible exact ih3 _ _ _ _ _ _ _ _ _ _)
      | (with_reducible exact ih4 _ _ _ _ _ _ _ _ _ _ _)
      | (with_reducible exact ih5 _ _ _ _ _ _ _ _ _)
      | (with_reducible exact ih6 _ _ _ _ _ _ _ _ _ _)
      | (with_reducible exact ih7 _ _ _ _ _ _ _ _ _)
      | (with_reducible exact spec_l1Max.mono _ _)
      | (with_reducible exact spec_l1Rd_pick.mono _ _ _ _)
      | (with_reducible exact spec_l4Any.mono _ _ _ _)
      | (with_reducible exact LeO.refl _)
      | (with_reducible exact LeO.none _)
      | (with_reducible refine LeO.ite ?_ ?_)
      | (with_reducible refine LeO.bind ?_ (fun _ => ?_))
      | exact ih0 _ _ _ _
      | exact ih1 _ _ _ _ _ _ _
      | exact ih2 _ _ _ _ _ _ _ _ _ _ _
      | exact ih3 _ _ _ _ _ _ _ _ _ _
      | exact ih4 _ _ _ _ _ _ _ _ _ _ _
      | exact ih5 _ _ _ _ _ _ _ _ _
      | exact ih6 _ _ _ _ _ _ _ _ _ _
      | exact ih7 _ _ _ _ _ _ _ _ _
      | exact spec_l1Max.mono _ _
      | exact spec_l1Rd_pick.mono _ _ _ _
      | exact spec_l4Any.mono _ _ _ _
      | exact LeO.none _
      | refine LeO.ite ?_ ?_
      | refine LeO.bind ?_ (fun _ => ?_)
    · intro y0 y1 y2 y3 y4 y5 y6 y7 y8 y9
      unfold spec_DrawBinary.j3
      repeat' first
      | (with_reducible exact ih0 _ _ _ _)
      | (with_reducible exact ih1 _ _ _ _ _ _ _)
      | (with_reducible exact ih2 _ _ _ _ _ _ _ _ _ _ _)
      | (with_reducible exact ih3 _ _ _ _ _ _ _ _ _ _)
      | (with_reducible exact ih4 _ _ _ _ _ _ _ _ _ _ _)
      | (with_reducible exact ih5 _ _ _ _ _ _ _ _ _)
      | (with_reducible exact ih6 _ _ _ _ _ _ _ _ _ _)
      | (with_reducible exact ih7 _ _ _ _ _ _ _ _ _)
      | (with_reducible exact spec_l1Max.mono _ _)
      | (with_reducible exact spec_l1Rd_pick.mono _ _ _ _)
      | (with_reducible exact spec_l4Any.mono _ _ _ _)
      | (with_reducible exact LeO.refl _)
      | (with_reducible exact LeO.none _)
      | (with_reducible refine LeO.ite ?_ ?_)
      | (with_reducible refine LeO.bind ?_ (fun _ => ?_))
      | exact ih0 _ _ _ _
      | exact ih1 _ _ _ _ _ _ _
      | exact ih2 _ _ _ _ _ _ _ _ _ _ _
      | exact ih3 _ _ _ _ _ _ _ _ _ _
      | exact ih4 _ _ _ _ _ _ _ _ _ _ _
      | exact ih5 _ _ _ _ _ _ _ _ _
      | exact ih6 _ _ _ _ _ _ _ _ _ _
      | exact ih7 _ _ _ _ _ _ _ _ _
      | exact spec_l1Max.mono _ _
      | exact spec_l1Rd_pick.mono _ _ _ _
      | exact spec_l4Any.mono _ _ _ _
      | exact LeO.none _
      | refine LeO.ite ?_ ?_
      | refine LeO.bind ?_ (fun _ => ?_)
    · intro y0 y1 y2 y3 y4 y5 y6 y7 y8 y9 y10
      unfold spec_DrawBinary.j4
      repeat' first
      | (with_reducible exact ih0 _ _ _ _)
      | (with_reducible exact ih1 _ _ _ _ _ _ _)
      | (with_reducible exact ih2 _ _ _ _ _ _ _ _ _ _ _)
      | (with_reducible exact ih3 _ _ _ _ _ _ _ _ _ _)
      | (with_reducible exact ih4 _ _ _ _ _ _ _ _ _ _ _)
      | (with_reducible exact ih5 _ _ _ _ _ _ _ _ _)
      | (with_reducible exact ih6 _ _ _ _ _ _ _ _ _ _)
      | (with_reducible exact ih7 _ _ _ _ _ _ _ _ _)
      | (with_reducible exact spec_l1Max.mono _ _)
      | (with_reducible exact spec_l1Rd_pick.mono _ _ _ _)
      | (with_reducible exact spec_l4Any.mono _ _ _ _)
      | (with_reducible exact LeO.refl _)
      | (with_reducible exact LeO.none _)
      | (with_reducible refine LeO.ite ?_ ?_)
      | (with_reducible refine LeO.bind ?_ (fun _ => ?_))
      | exact ih0 _ _ _ _
      | exact ih1 _ _ _ _ _ _ _
      | exact ih2 _ _ _ _ _ _ _ _ _ _ _
      | exact ih3 _ _ _ _ _ _ _ _ _ _
      | exact ih4 _ _ _ _ _ _ _ _ _ _ _
      | exact ih5 _ _ _ _ _ _ _ _ _
      | exact ih6 _ _ _ _ _ _ _ _ _ _
      | exact ih7 _ _ _ _ _ _ _ _ _
      | exact spec_l1Max.mono _ _
      | exact spec_l1Rd_pick.mono _ _ _ _
      | exact spec_l4Any.mono _ _ _ _
      | exact LeO.none _
      | refine LeO.ite ?_ ?_
      | refine LeO.bind ?_ (fun _ => ?_)
    · intro y0 y1 y2 y3 y4 y5 y6 y7 y8
      unfold spec_DrawBinary.j5
      repeat' first
      | (with_reducible exact ih0 _ _ _ _)
      | (with_reducible exact ih1 _ _ _ _ _ _ _)
      | (with_reducible exact ih2 _ _ _ _ _ _ _ _ _ _ _)
      | (with_reducible exact ih3 _ _ _ _ _ _ _ _ _ _)
      | (with_reducible exact ih4 _ _ _ _ _ _ _ _ _ _ _)
      | (with_reducible exact ih5 _ _ _ _ _ _ _ _ _)
      | (with_reducible exact ih6 _ _ _ _ _ _ _ _ _ _)
      | (with_reducible exact ih7 _ _ _ _ _ _ _ _ _)
      | (with_reducible exact spec_l1Max.mono _ _)
      | (with_reducible exact spec_l1Rd_pick.mono _ _ _ _)
      | (with_reducible exact spec_l4Any.mono _ _ _ _)
      | (with_reducible exact LeO.refl _)
      | (with_reducible exact LeO.none _)
      | (with_reducible refine LeO.ite ?_ ?_)
      | (with_reducible refine LeO.bind ?_ (fun _ => ?_))
      | exact ih0 _ _ _ _
      | exact ih1 _ _ _ _ _ _ _
      | exact ih2 _ _ _ _ _ _ _ _ _ _ _
      | exact ih3 _ _ _ _ _ _ _ _ _ _
      | exact ih4 _ _ _ _ _ _ _ _ _ _ _
      | exact ih5 _ _ _ _ _ _ _ _ _
      | exact ih6 _ _ _ _ _ _ _ _ _ _
      | exact ih7 _ _ _ _ _ _ _ _ _
      | exact spec_l1Max.mono _ _
      | exact spec_l1Rd_pick.mono _ _ _ _
      | exact spec_l4Any.mono _ _ _ _
      | exact LeO.none _
      | refine LeO.ite ?_ ?_
      | refine LeO.bind ?_ (fun _ => ?_)
    · intro y0 y1 y2 y3 y4 y5 y6 y7 y8 y9
      unfold spec_DrawBinary.j6
      repeat' first
      | (with_reducible exact ih0 _ _ _ _)
      | (with_reducible exact ih1 _ _ _ _ _ _ _)
      | (with_reducible exact ih2 _ _ _ _ _ _ _ _ _ _ _)
      | (with_reducible exact ih3 _ _ _ _ _ _ _ _ _ _)
      | (with_reducible exact ih4 _ _ _ _ _ _ _ _ _ _ _)
      | (with_reducible exact ih5 _ _ _ _ _ _ _ _ _)
      | (with_reducible exact ih6 _ _ _ _ _ _ _ _ _ _)
      | (with_reducible exact ih7 _ _ _ _ _ _ _ _ _)
      | (with_reducible exact spec_l1Max.mono _ _)
      | (with_reducible exact spec_l1Rd_pick.mono _ _ _ _)
      | (with_reducible exact spec_l4Any.mono _ _ _ _)
      | (with_reducible exact LeO.refl _)
      | (with_reducible exact LeO.none _)
      | (with_reducible refine LeO.ite ?_ ?_)
      | (with_reducible refine LeO.bind ?_ (fun _ => ?_))
      | exact ih0 _ _ _ _
      | exact ih1 _ _ _ _ _ _ _
      | exact ih2 _ _ _ _ _ _ _ _ _ _ _
      | exact ih3 _ _ _ _ _ _ _ _ _ _
      | exact ih4 _ _ _ _ _ _ _ _ _ _ _
      | exact ih5 _ _ _ _ _ _ _ _ _
      | exact ih6 _ _ _ _ _ _ _ _ _ _
      | exact ih7 _ _ _ _ _ _ _ _ _
      | exact spec_l1Max.mono _ _
      | exact spec_l1Rd_pick.mono _ _ _ _
      | exact spec_l4Any.mono _ _ _ _
      | exact LeO.none _
      | refine LeO.ite ?_ ?_
      | refine LeO.bind ?_ (fun _ => ?_)
    intro y0 y1 y2 y3 y4 y5 y6 y7 y8
    unfold spec_DrawBinary.j7
    repeat' first
    | (with_reducible exact ih0 _ _ _ _)
    | (with_reducible exact ih1 _ _ _ _ _ _ _)
    | (with_reducible exact ih2 _ _ _ _ _ _ _ _ _ _ _)
    | (with_reducible exact ih3 _ _ _ _ _ _ _ _ _ _)
    | (with_reducible exact ih4 _ _ _ _ _ _ _ _ _ _ _)
    | (with_reducible exact ih5 _ _ _ _ _ _ _ _ _)
    | (with_reducible exact ih6 _ _ _ _ _ _ _ _ _ _)
    | (with_reducible exact ih7 _ _ _ _ _ _ _ _ _)
    | (with_reducible exact spec_l1Max.mono _ _)
    | (with_reducible exact spec_l1Rd_pick.mono _ _ _ _)
    | (with_reducible exact spec_l4Any.mono _ _ _ _)
    | (with_reducible exact LeO.refl _)
    | (with_reducible exact LeO.none _)
    | (with_reducible refine LeO.ite ?_ ?_)
    | (with_reducible refine LeO.bind ?_ (fun _ => ?_))
    | exact ih0 _ _ _ _
    | exact ih1 _ _ _ _ _ _ _
    | exact ih2 _ _ _ _ _ _ _ _ _ _ _
    | exact ih3 _ _ _ _ _ _ _ _ _ _
    | exact ih4 _ _ _ _ _ _ _ _ _ _ _
    | exact ih5 _ _ _ _ _ _ _ _ _
    | exact ih6 _ _ _ _ _ _ _ _ _ _
    | exact ih7 _ _ _ _ _ _ _ _ _
    | exact spec_l1Max.mono _ _
    | exact spec_l1Rd_pick.mono _ _ _ _
    | exact spec_l4Any.mono _ _ _ _
    | exact LeO.none _
    | refine LeO.ite ?_ ?_
    | refine LeO.bind ?_ (fun _ => ?_)
theorem spec_DrawBinary.mono : ∀ a0 k, LeO (spec_DrawBinary.f k a0) (spec_DrawBinary.f (k + 1) a0) := by
  intro a0 k
  obtain ⟨ih0, ih1, ih2, ih3, ih4, ih5, ih6, ih7⟩ := spec_DrawBinary.mono_l k
  unfold spec_DrawBinary.f
  repeat' first
      | (with_reducible exact ih0 _ _ _ _)
      | (with_reducible exact ih1 _ _ _ _ _ _ _)
      | (with_reducible exact ih2 _ _ _ _ _ _ _ _ _ _ _)
      | (with_reducible exact ih3 _ _ _ _ _ _ _ _ _ _)
      | (with_reducible exact ih4 _ _ _ _ _ _ _ _ _ _ _)
      | (with_reducible exact ih5 _ _ _ _ _ _ _ _ _)
      | (with_reducible exact ih6 _ _ _ _ _ _ _ _ _ _)
      | (with_reducible exact ih7 _ _ _ _ _ _ _ _ _)
      | (with_reducible exact spec_l1Max.mono _ _)
      | (with_reducible exact spec_l1Rd_pick.mono _ _ _ _)
      | (with_reducible exact spec_l4Any.mono _ _ _ _)
      | (with_reducible exact LeO.refl _)
      | (with_reducible exact LeO.none _)
      | (with_reducible refine LeO.ite ?_ ?_)
      | (with_reducible refine LeO.bind ?_ (fun _ => ?_))
      | exact ih0 _ _ _ _
      | exact ih1 _ _ _ _ _ _ _
      | exact ih2 _ _ _ _ _ _ _ _ _ _ _
      | exact ih3 _ _ _ _ _ _ _ _ _ _
      | exact ih4 _ _ _ _ _ _ _ _ _ _ _
      | exact ih5 _ _ _ _ _ _ _ _ _
      | exact ih6 _ _ _ _ _ _ _ _ _ _
      | exact ih7 _ _ _ _ _ _ _ _ _
      | exact spec_l1Max.mono _ _
      | exact spec_l1Rd_pick.mono _ _ _ _
      | exact spec_l4Any.mono _ _ _ _
      | exact LeO.none _
      | refine LeO.ite ?_ ?_
      | refine LeO.bind ?_ (fun _ => ?_)
end Go.Proofs.Ytajlomhnednghaa.B
