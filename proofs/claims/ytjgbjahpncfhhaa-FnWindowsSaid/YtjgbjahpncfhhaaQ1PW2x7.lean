-- SHRUNK: rows drawn in by a program of this session
import Derived.Test.YtjgbjahpncfhhaaQ1PW2x0
import Derived.Test.YtjgbjahpncfhhaaQ1PW2x1
import Derived.Test.YtjgbjahpncfhhaaQ1PW2x2
import Derived.Test.YtjgbjahpncfhhaaQ1PW2x3
import Derived.Test.YtjgbjahpncfhhaaQ1PW2x5
import Derived.Test.YtjgbjahpncfhhaaQ1PW2x6
namespace Go.Proofs.Ytjgbjahpncfhhaa.PW2
open Go.RowKit Go.Proofs.YtjgbjahpncfhhaaW.PrintWords Go.Proofs.YtjgbjahpncfhhaaW.PrintLast Go.Proofs.YtjgbjahpncfhhaaW.PrintMore
attribute [local go_sem] max2_int min2_int max_two min_two max_three min_three max_four min_four   -- for this text's walks alone
set_option linter.unusedVariables false
set_option linter.unusedSimpArgs false
mutual
def laws_FnWindows.l0 : Nat → List Int → List (S180) → Int → List Int → Int → Int → Int → List (S143) → Option (Bool)
 | 0, _, _, _, _, _, _, _, _ => none
 | k + 1, x0, x4, x5, x6, x7, x282000, x282001, x282002 => if x7 < x282001 then ((impl_Share.f k x282000 x282001 x282002 x7).bind fun bt285 => (if bt285.2.2 = true then (if bt285.2.1 < 0 then (laws_FnWindows.j1 k x0 x4 x5 x6 x7 bt285.1 true x282000 x282001 x282002) else (if bt285.2.1 > x282000 then (laws_FnWindows.j1 k x0 x4 x5 x6 x7 bt285.1 true x282000 x282001 x282002) else (laws_FnWindows.j1 k x0 x4 x5 x6 x7 bt285.1 (decide (bt285.1 < 0)) x282000 x282001 x282002))) else (laws_FnWindows.j1 k x0 x4 x5 x6 x7 bt285.1 true x282000 x282001 x282002))) else (if 0 ≤ x282001 then (if (x282001 : Int).toNat ≤ 35184372088832 then (laws_FnWindows.l1 k x0 x4 x5 x6 (List.replicate (x282001 : Int).toNat 0) 0 x282000 x282001 x282002) else (none)) else (none))
def laws_FnWindows.j1 : Nat → List Int → List (S180) → Int → List Int → Int → Int → Bool → Int → Int → List (S143) → Option (Bool)
 | 0, _, _, _, _, _, _, _, _, _, _ => none
 | k + 1, x0, x4, x5, x6, x7, x8, x66, x282000, x282001, x282002 => if x66 = true then (some false) else (if x6.length < 17592186044416 then (laws_FnWindows.l0 k x0 x4 (wrap64 (x5 + x8)) (x6 ++ [x8]) (wrap64 (x7 + 1)) x282000 x282001 x282002) else (none))
def laws_FnWindows.l1 : Nat → List Int → List (S180) → Int → List Int → List Int → Int → Int → Int → List (S143) → Option (Bool)
 | 0, _, _, _, _, _, _, _, _, _ => none
 | k + 1, x0, x4, x5, x6, x11, x12, x282000, x282001, x282002 => if x12 < x282000 then ((impl_Owner.f k x282000 x282001 x282002 x12).bind fun bt294 => ((impl_Owner.f k x282000 x282001 x282002 (wrap64 (x12 + x282000))).bind fun bt296 => (if bt294.2 = true then (if bt294.1 < (-1) then (laws_FnWindows.j3 k x0 x4 x5 x6 x11 x12 bt294.1 true x282000 x282001 x282002) else (if bt294.1 ≥ x282001 then (laws_FnWindows.j3 k x0 x4 x5 x6 x11 x12 bt294.1 true x282000 x282001 x282002) else (laws_FnWindows.j3 k x0 x4 x5 x6 x11 x12 bt294.1 (bt296.1 != bt294.1) x282000 x282001 x282002))) else (laws_FnWindows.j3 k x0 x4 x5 x6 x11 x12 bt294.1 true x282000 x282001 x282002)))) else ((laws_sameInts.f k x11 x6).bind fun t300 => (if t300 = true then (if x5 > x282000 then (laws_FnWindows.j4 k x0 x4 x5 true x282000 x282001 x282002) else ((impl_PlanOk.f k x282000 x282001 x282002).bind fun t301 => (laws_FnWindows.j4 k x0 x4 x5 (!t301) x282000 x282001 x282002))) else (laws_FnWindows.j4 k x0 x4 x5 true x282000 x282001 x282002)))
def laws_FnWindows.j3 : Nat → List Int → List (S180) → Int → List Int → List Int → Int → Int → Bool → Int → Int → List (S143) → Option (Bool)
 | 0, _, _, _, _, _, _, _, _, _, _, _ => none
 | k + 1, x0, x4, x5, x6, x11, x12, x13, x114, x282000, x282001, x282002 => if x114 = true then (some false) else (if x13 ≥ 0 then (if 0 ≤ x13 then (if x13 < (x11.length : Int) then (laws_FnWindows.l1 k x0 x4 x5 x6 (x11.set (x13 : Int).toNat (wrap64 ((rd x11 x13) + 1))) (wrap64 (x12 + 1)) x282000 x282001 x282002) else (none)) else (none)) else (laws_FnWindows.l1 k x0 x4 x5 x6 x11 (wrap64 (x12 + 1)) x282000 x282001 x282002))
def laws_FnWindows.j4 : Nat → List Int → List (S180) → Int → Bool → Int → Int → List (S143) → Option (Bool)
 | 0, _, _, _, _, _, _, _ => none
 | k + 1, x0, x4, x5, x137, x282000, x282001, x282002 => if x137 = true then (some false) else ((laws_at.f x0 2).bind fun t302 => ((impl_FitWindow.f k x282000 x282001 x282002 0 (wrap64 (1 + (Int.tmod t302 4)))).bind fun bt303 => (laws_FnWindows.l2 k x4 x5 bt303.2.2.2 0 x282000 x282001 x282002 bt303.1 bt303.2.1 bt303.2.2.1)))
def laws_FnWindows.l2 : Nat → List (S180) → Int → Bool → Int → Int → Int → List (S143) → Int → Int → List (S143) → Option (Bool)
 | 0, _, _, _, _, _, _, _, _, _, _ => none
 | k + 1, x4, x5, x18, x19, x282000, x282001, x282002, x310000, x310001, x310002 => if x19 < x282000 then (laws_FnWindows.j6 k x4 x5 x18 x19 x18 x282000 x282001 x282002 x310000 x310001 x310002) else (laws_FnWindows.j6 k x4 x5 x18 x19 false x282000 x282001 x282002 x310000 x310001 x310002)
def laws_FnWindows.j6 : Nat → List (S180) → Int → Bool → Int → Bool → Int → Int → List (S143) → Int → Int → List (S143) → Option (Bool)
 | 0, _, _, _, _, _, _, _, _, _, _, _ => none
 | k + 1, x4, x5, x18, x19, x153, x282000, x282001, x282002, x310000, x310001, x310002 => if x153 = true then ((impl_Owner.f k x282000 x282001 x282002 x19).bind fun bt310 => ((impl_Owner.f k x310000 x310001 x310002 x19).bind fun bt312 => (if bt310.1 ≥ 0 then (if bt312.1 = bt310.1 then (if bt310.1 < 0 then (laws_FnWindows.j7 k x4 x5 x18 x19 (decide (bt312.1 > 0)) x282000 x282001 x282002 x310000 x310001 x310002) else (laws_FnWindows.j7 k x4 x5 x18 x19 false x282000 x282001 x282002 x310000 x310001 x310002)) else (laws_FnWindows.j7 k x4 x5 x18 x19 true x282000 x282001 x282002 x310000 x310001 x310002)) else (if bt310.1 < 0 then (laws_FnWindows.j7 k x4 x5 x18 x19 (decide (bt312.1 > 0)) x282000 x282001 x282002 x310000 x310001 x310002) else (laws_FnWindows.j7 k x4 x5 x18 x19 false x282000 x282001 x282002 x310000 x310001 x310002))))) else ((impl_RunJobs.f k x282000 x282001 x282002 x4 x282000).bind fun bt314 => ((impl_RunJobs.f k x282000 x282001 x282002 ([] : List (S180)) x282000).bind fun bt319 => (if bt314.2.2 = true then (if bt319.2.2 = true then (if (bt314.1.length : Int) = (x4.length : Int) then (if bt314.2.1 ≥ 0 then (if bt314.2.1 ≤ x5 then (if (bt319.1.length : Int) = 0 then (some (bt319.2.1 == x5)) else (some false)) else (some false)) else (some false)) else (some false)) else (some false)) else (some false))))
def laws_FnWindows.j7 : Nat → List (S180) → Int → Bool → Int → Bool → Int → Int → List (S143) → Int → Int → List (S143) → Option (Bool)
 | 0, _, _, _, _, _, _, _, _, _, _, _ => none
 | k + 1, x4, x5, x18, x19, x182, x282000, x282001, x282002, x310000, x310001, x310002 => if x182 = true then (some false) else (laws_FnWindows.l2 k x4 x5 x18 (wrap64 (x19 + 1)) x282000 x282001 x282002 x310000 x310001 x310002)
end
def laws_FnWindows.f (k : Nat) (l0 : List Int) : Option (Bool) := (laws_big.f l0).bind fun t272 => (if t272 = true then (some true) else ((spec_DrawPlan17.f k l0).bind fun bt273 => (laws_FnWindows.l0 k l0 bt273.2.2.2 0 (([] : List Int)) 0 bt273.1 bt273.2.1 bt273.2.2.1)))
theorem laws_FnWindows.mono_l : ∀ k, (∀ y0 y1 y2 y3 y4 y5 y6 y7, LeO (laws_FnWindows.l0 k y0 y1 y2 y3 y4 y5 y6 y7) (laws_FnWindows.l0 (k + 1) y0 y1 y2 y3 y4 y5 y6 y7)) ∧ (∀ y0 y1 y2 y3 y4 y5 y6 y7 y8 y9, LeO (laws_FnWindows.j1 k y0 y1 y2 y3 y4 y5 y6 y7 y8 y9) (laws_FnWindows.j1 (k + 1) y0 y1 y2 y3 y4 y5 y6 y7 y8 y9)) ∧ (∀ y0 y1 y2 y3 y4 y5 y6 y7 y8, LeO (laws_FnWindows.l1 k y0 y1 y2 y3 y4 y5 y6 y7 y8) (laws_FnWindows.l1 (k + 1) y0 y1 y2 y3 y4 y5 y6 y7 y8)) ∧ (∀ y0 y1 y2 y3 y4 y5 y6 y7 y8 y9 y10, LeO (laws_FnWindows.j3 k y0 y1 y2 y3 y4 y5 y6 y7 y8 y9 y10) (laws_FnWindows.j3 (k + 1) y0 y1 y2 y3 y4 y5 y6 y7 y8 y9 y10)) ∧ (∀ y0 y1 y2 y3 y4 y5 y6, LeO (laws_FnWindows.j4 k y0 y1 y2 y3 y4 y5 y6) (laws_FnWindows.j4 (k + 1) y0 y1 y2 y3 y4 y5 y6)) ∧ (∀ y0 y1 y2 y3 y4 y5 y6 y7 y8 y9, LeO (laws_FnWindows.l2 k y0 y1 y2 y3 y4 y5 y6 y7 y8 y9) (laws_FnWindows.l2 (k + 1) y0 y1 y2 y3 y4 y5 y6 y7 y8 y9)) ∧ (∀ y0 y1 y2 y3 y4 y5 y6 y7 y8 y9 y10, LeO (laws_FnWindows.j6 k y0 y1 y2 y3 y4 y5 y6 y7 y8 y9 y10) (laws_FnWindows.j6 (k + 1) y0 y1 y2 y3 y4 y5 y6 y7 y8 y9 y10)) ∧ (∀ y0 y1 y2 y3 y4 y5 y6 y7 y8 y9 y10, LeO (laws_FnWindows.j7 k y0 y1 y2 y3 y4 y5 y6 y7 y8 y9 y10) (laws_FnWindows.j7 (k + 1) y0 y1 y2 y3 y4 y5 y6 y7 y8 y9 y10))
 | 0 => ⟨fun _ _ _ _ _ _ _ _ r h => by simp [laws_FnWindows.l0] at h, fun _ _ _ _ _ _ _ _ _ _ r h => by simp [laws_FnWindows.j1] at h, fun _ _ _ _ _ _ _ _ _ r h => by simp [laws_FnWindows.l1] at h, fun _ _ _ _ _ _ _ _ _ _ _ r h => by simp [laws_FnWindows.j3] at h, fun _ _ _ _ _ _ _ r h => by simp [laws_FnWindows.j4] at h, fun _ _ _ _ _ _ _ _ _ _ r h => by simp [laws_FnWindows.l2] at h, fun _ _ _ _ _ _ _ _ _ _ _ r h => by simp [laws_FnWindows.j6] at h, fun _ _ _ _ _ _ _ _ _ _ _ r h => by simp [laws_FnWindows.j7] at h⟩
 | k + 1 => by
  obtain ⟨ih0, ih1, ih2, ih3, ih4, ih5, ih6, ih7⟩ := laws_FnWindows.mono_l k
  refine ⟨?_, ?_, ?_, ?_, ?_, ?_, ?_, ?_⟩
  ·
   intro y0 y1 y2 y3 y4 y5 y6 y7
   unfold laws_FnWindows.l0
   repeat' first
   | (with_reducible exact ih0 _ _ _ _ _ _ _ _)
   | (with_reducible exact ih1 _ _ _ _ _ _ _ _ _ _)
   | (with_reducible exact ih2 _ _ _ _ _ _ _ _ _)
   | (with_reducible exact ih3 _ _ _ _ _ _ _ _ _ _ _)
   | (with_reducible exact ih4 _ _ _ _ _ _ _)
   | (with_reducible exact ih5 _ _ _ _ _ _ _ _ _ _)
   | (with_reducible exact ih6 _ _ _ _ _ _ _ _ _ _ _)
   | (with_reducible exact ih7 _ _ _ _ _ _ _ _ _ _ _)
   | (with_reducible exact impl_FitWindow.mono _ _ _ _ _ _)
   | (with_reducible exact impl_Owner.mono _ _ _ _ _)
   | (with_reducible exact impl_PlanOk.mono _ _ _ _)
   | (with_reducible exact impl_RunJobs.mono _ _ _ _ _ _)
   | (with_reducible exact impl_Share.mono _ _ _ _ _)
   | (with_reducible exact laws_sameInts.mono _ _ _)
   | (with_reducible exact spec_DrawPlan17.mono _ _)
   | (with_reducible exact LeO.refl _)
   | (with_reducible exact LeO.none _)
   | (with_reducible refine LeO.ite ?_ ?_)
   | (with_reducible refine LeO.bind ?_ (fun _ => ?_))
   | exact ih0 _ _ _ _ _ _ _ _
   | exact ih1 _ _ _ _ _ _ _ _ _ _
   | exact ih2 _ _ _ _ _ _ _ _ _
   | exact ih3 _ _ _ _ _ _ _ _ _ _ _
   | exact ih4 _ _ _ _ _ _ _
   | exact ih5 _ _ _ _ _ _ _ _ _ _
   | exact ih6 _ _ _ _ _ _ _ _ _ _ _
   | exact ih7 _ _ _ _ _ _ _ _ _ _ _
   | exact impl_FitWindow.mono _ _ _ _ _ _
   | exact impl_Owner.mono _ _ _ _ _
   | exact impl_PlanOk.mono _ _ _ _
   | exact impl_RunJobs.mono _ _ _ _ _ _
   | exact impl_Share.mono _ _ _ _ _
   | exact laws_sameInts.mono _ _ _
   | exact spec_DrawPlan17.mono _ _
   | exact LeO.none _
   | refine LeO.ite ?_ ?_
   | refine LeO.bind ?_ (fun _ => ?_)
  ·
   intro y0 y1 y2 y3 y4 y5 y6 y7 y8 y9
   unfold laws_FnWindows.j1
   repeat' first
   | (with_reducible exact ih0 _ _ _ _ _ _ _ _)
   | (with_reducible exact ih1 _ _ _ _ _ _ _ _ _ _)
   | (with_reducible exact ih2 _ _ _ _ _ _ _ _ _)
   | (with_reducible exact ih3 _ _ _ _ _ _ _ _ _ _ _)
   | (with_reducible exact ih4 _ _ _ _ _ _ _)
   | (with_reducible exact ih5 _ _ _ _ _ _ _ _ _ _)
   | (with_reducible exact ih6 _ _ _ _ _ _ _ _ _ _ _)
   | (with_reducible exact ih7 _ _ _ _ _ _ _ _ _ _ _)
   | (with_reducible exact impl_FitWindow.mono _ _ _ _ _ _)
   | (with_reducible exact impl_Owner.mono _ _ _ _ _)
   | (with_reducible exact impl_PlanOk.mono _ _ _ _)
   | (with_reducible exact impl_RunJobs.mono _ _ _ _ _ _)
   | (with_reducible exact impl_Share.mono _ _ _ _ _)
   | (with_reducible exact laws_sameInts.mono _ _ _)
   | (with_reducible exact spec_DrawPlan17.mono _ _)
   | (with_reducible exact LeO.refl _)
   | (with_reducible exact LeO.none _)
   | (with_reducible refine LeO.ite ?_ ?_)
   | (with_reducible refine LeO.bind ?_ (fun _ => ?_))
   | exact ih0 _ _ _ _ _ _ _ _
   | exact ih1 _ _ _ _ _ _ _ _ _ _
   | exact ih2 _ _ _ _ _ _ _ _ _
   | exact ih3 _ _ _ _ _ _ _ _ _ _ _
   | exact ih4 _ _ _ _ _ _ _
   | exact ih5 _ _ _ _ _ _ _ _ _ _
   | exact ih6 _ _ _ _ _ _ _ _ _ _ _
   | exact ih7 _ _ _ _ _ _ _ _ _ _ _
   | exact impl_FitWindow.mono _ _ _ _ _ _
   | exact impl_Owner.mono _ _ _ _ _
   | exact impl_PlanOk.mono _ _ _ _
   | exact impl_RunJobs.mono _ _ _ _ _ _
   | exact impl_Share.mono _ _ _ _ _
   | exact laws_sameInts.mono _ _ _
   | exact spec_DrawPlan17.mono _ _
   | exact LeO.none _
   | refine LeO.ite ?_ ?_
   | refine LeO.bind ?_ (fun _ => ?_)
  ·
   intro y0 y1 y2 y3 y4 y5 y6 y7 y8
   unfold laws_FnWindows.l1
   repeat' first
   | (with_reducible exact ih0 _ _ _ _ _ _ _ _)
   | (with_reducible exact ih1 _ _ _ _ _ _ _ _ _ _)
   | (with_reducible exact ih2 _ _ _ _ _ _ _ _ _)
   | (with_reducible exact ih3 _ _ _ _ _ _ _ _ _ _ _)
   | (with_reducible exact ih4 _ _ _ _ _ _ _)
   | (with_reducible exact ih5 _ _ _ _ _ _ _ _ _ _)
   | (with_reducible exact ih6 _ _ _ _ _ _ _ _ _ _ _)
   | (with_reducible exact ih7 _ _ _ _ _ _ _ _ _ _ _)
   | (with_reducible exact impl_FitWindow.mono _ _ _ _ _ _)
   | (with_reducible exact impl_Owner.mono _ _ _ _ _)
   | (with_reducible exact impl_PlanOk.mono _ _ _ _)
   | (with_reducible exact impl_RunJobs.mono _ _ _ _ _ _)
   | (with_reducible exact impl_Share.mono _ _ _ _ _)
   | (with_reducible exact laws_sameInts.mono _ _ _)
   | (with_reducible exact spec_DrawPlan17.mono _ _)
   | (with_reducible exact LeO.refl _)
   | (with_reducible exact LeO.none _)
   | (with_reducible refine LeO.ite ?_ ?_)
   | (with_reducible refine LeO.bind ?_ (fun _ => ?_))
   | exact ih0 _ _ _ _ _ _ _ _
   | exact ih1 _ _ _ _ _ _ _ _ _ _
   | exact ih2 _ _ _ _ _ _ _ _ _
   | exact ih3 _ _ _ _ _ _ _ _ _ _ _
   | exact ih4 _ _ _ _ _ _ _
   | exact ih5 _ _ _ _ _ _ _ _ _ _
   | exact ih6 _ _ _ _ _ _ _ _ _ _ _
   | exact ih7 _ _ _ _ _ _ _ _ _ _ _
   | exact impl_FitWindow.mono _ _ _ _ _ _
   | exact impl_Owner.mono _ _ _ _ _
   | exact impl_PlanOk.mono _ _ _ _
   | exact impl_RunJobs.mono _ _ _ _ _ _
   | exact impl_Share.mono _ _ _ _ _
   | exact laws_sameInts.mono _ _ _
   | exact spec_DrawPlan17.mono _ _
   | exact LeO.none _
   | refine LeO.ite ?_ ?_
   | refine LeO.bind ?_ (fun _ => ?_)
  ·
   intro y0 y1 y2 y3 y4 y5 y6 y7 y8 y9 y10
   unfold laws_FnWindows.j3
   repeat' first
   | (with_reducible exact ih0 _ _ _ _ _ _ _ _)
   | (with_reducible exact ih1 _ _ _ _ _ _ _ _ _ _)
   | (with_reducible exact ih2 _ _ _ _ _ _ _ _ _)
   | (with_reducible exact ih3 _ _ _ _ _ _ _ _ _ _ _)
   | (with_reducible exact ih4 _ _ _ _ _ _ _)
   | (with_reducible exact ih5 _ _ _ _ _ _ _ _ _ _)
   | (with_reducible exact ih6 _ _ _ _ _ _ _ _ _ _ _)
   | (with_reducible exact ih7 _ _ _ _ _ _ _ _ _ _ _)
   | (with_reducible exact impl_FitWindow.mono _ _ _ _ _ _)
   | (with_reducible exact impl_Owner.mono _ _ _ _ _)
   | (with_reducible exact impl_PlanOk.mono _ _ _ _)
   | (with_reducible exact impl_RunJobs.mono _ _ _ _ _ _)
   | (with_reducible exact impl_Share.mono _ _ _ _ _)
   | (with_reducible exact laws_sameInts.mono _ _ _)
   | (with_reducible exact spec_DrawPlan17.mono _ _)
   | (with_reducible exact LeO.refl _)
   | (with_reducible exact LeO.none _)
   | (with_reducible refine LeO.ite ?_ ?_)
   | (with_reducible refine LeO.bind ?_ (fun _ => ?_))
   | exact ih0 _ _ _ _ _ _ _ _
   | exact ih1 _ _ _ _ _ _ _ _ _ _
   | exact ih2 _ _ _ _ _ _ _ _ _
   | exact ih3 _ _ _ _ _ _ _ _ _ _ _
   | exact ih4 _ _ _ _ _ _ _
   | exact ih5 _ _ _ _ _ _ _ _ _ _
   | exact ih6 _ _ _ _ _ _ _ _ _ _ _
   | exact ih7 _ _ _ _ _ _ _ _ _ _ _
   | exact impl_FitWindow.mono _ _ _ _ _ _
   | exact impl_Owner.mono _ _ _ _ _
   | exact impl_PlanOk.mono _ _ _ _
   | exact impl_RunJobs.mono _ _ _ _ _ _
   | exact impl_Share.mono _ _ _ _ _
   | exact laws_sameInts.mono _ _ _
   | exact spec_DrawPlan17.mono _ _
   | exact LeO.none _
   | refine LeO.ite ?_ ?_
   | refine LeO.bind ?_ (fun _ => ?_)
  ·
   intro y0 y1 y2 y3 y4 y5 y6
   unfold laws_FnWindows.j4
   repeat' first
   | (with_reducible exact ih0 _ _ _ _ _ _ _ _)
   | (with_reducible exact ih1 _ _ _ _ _ _ _ _ _ _)
   | (with_reducible exact ih2 _ _ _ _ _ _ _ _ _)
   | (with_reducible exact ih3 _ _ _ _ _ _ _ _ _ _ _)
   | (with_reducible exact ih4 _ _ _ _ _ _ _)
   | (with_reducible exact ih5 _ _ _ _ _ _ _ _ _ _)
   | (with_reducible exact ih6 _ _ _ _ _ _ _ _ _ _ _)
   | (with_reducible exact ih7 _ _ _ _ _ _ _ _ _ _ _)
   | (with_reducible exact impl_FitWindow.mono _ _ _ _ _ _)
   | (with_reducible exact impl_Owner.mono _ _ _ _ _)
   | (with_reducible exact impl_PlanOk.mono _ _ _ _)
   | (with_reducible exact impl_RunJobs.mono _ _ _ _ _ _)
   | (with_reducible exact impl_Share.mono _ _ _ _ _)
   | (with_reducible exact laws_sameInts.mono _ _ _)
   | (with_reducible exact spec_DrawPlan17.mono _ _)
   | (with_reducible exact LeO.refl _)
   | (with_reducible exact LeO.none _)
   | (with_reducible refine LeO.ite ?_ ?_)
   | (with_reducible refine LeO.bind ?_ (fun _ => ?_))
   | exact ih0 _ _ _ _ _ _ _ _
   | exact ih1 _ _ _ _ _ _ _ _ _ _
   | exact ih2 _ _ _ _ _ _ _ _ _
   | exact ih3 _ _ _ _ _ _ _ _ _ _ _
   | exact ih4 _ _ _ _ _ _ _
   | exact ih5 _ _ _ _ _ _ _ _ _ _
   | exact ih6 _ _ _ _ _ _ _ _ _ _ _
   | exact ih7 _ _ _ _ _ _ _ _ _ _ _
   | exact impl_FitWindow.mono _ _ _ _ _ _
   | exact impl_Owner.mono _ _ _ _ _
   | exact impl_PlanOk.mono _ _ _ _
   | exact impl_RunJobs.mono _ _ _ _ _ _
   | exact impl_Share.mono _ _ _ _ _
   | exact laws_sameInts.mono _ _ _
   | exact spec_DrawPlan17.mono _ _
   | exact LeO.none _
   | refine LeO.ite ?_ ?_
   | refine LeO.bind ?_ (fun _ => ?_)
  ·
   intro y0 y1 y2 y3 y4 y5 y6 y7 y8 y9
   unfold laws_FnWindows.l2
   repeat' first
   | (with_reducible exact ih0 _ _ _ _ _ _ _ _)
   | (with_reducible exact ih1 _ _ _ _ _ _ _ _ _ _)
   | (with_reducible exact ih2 _ _ _ _ _ _ _ _ _)
   | (with_reducible exact ih3 _ _ _ _ _ _ _ _ _ _ _)
   | (with_reducible exact ih4 _ _ _ _ _ _ _)
   | (with_reducible exact ih5 _ _ _ _ _ _ _ _ _ _)
   | (with_reducible exact ih6 _ _ _ _ _ _ _ _ _ _ _)
   | (with_reducible exact ih7 _ _ _ _ _ _ _ _ _ _ _)
   | (with_reducible exact impl_FitWindow.mono _ _ _ _ _ _)
   | (with_reducible exact impl_Owner.mono _ _ _ _ _)
   | (with_reducible exact impl_PlanOk.mono _ _ _ _)
   | (with_reducible exact impl_RunJobs.mono _ _ _ _ _ _)
   | (with_reducible exact impl_Share.mono _ _ _ _ _)
   | (with_reducible exact laws_sameInts.mono _ _ _)
   | (with_reducible exact spec_DrawPlan17.mono _ _)
   | (with_reducible exact LeO.refl _)
   | (with_reducible exact LeO.none _)
   | (with_reducible refine LeO.ite ?_ ?_)
   | (with_reducible refine LeO.bind ?_ (fun _ => ?_))
   | exact ih0 _ _ _ _ _ _ _ _
   | exact ih1 _ _ _ _ _ _ _ _ _ _
   | exact ih2 _ _ _ _ _ _ _ _ _
   | exact ih3 _ _ _ _ _ _ _ _ _ _ _
   | exact ih4 _ _ _ _ _ _ _
   | exact ih5 _ _ _ _ _ _ _ _ _ _
   | exact ih6 _ _ _ _ _ _ _ _ _ _ _
   | exact ih7 _ _ _ _ _ _ _ _ _ _ _
   | exact impl_FitWindow.mono _ _ _ _ _ _
   | exact impl_Owner.mono _ _ _ _ _
   | exact impl_PlanOk.mono _ _ _ _
   | exact impl_RunJobs.mono _ _ _ _ _ _
   | exact impl_Share.mono _ _ _ _ _
   | exact laws_sameInts.mono _ _ _
   | exact spec_DrawPlan17.mono _ _
   | exact LeO.none _
   | refine LeO.ite ?_ ?_
   | refine LeO.bind ?_ (fun _ => ?_)
  ·
   intro y0 y1 y2 y3 y4 y5 y6 y7 y8 y9 y10
   unfold laws_FnWindows.j6
   repeat' first
   | (with_reducible exact ih0 _ _ _ _ _ _ _ _)
   | (with_reducible exact ih1 _ _ _ _ _ _ _ _ _ _)
   | (with_reducible exact ih2 _ _ _ _ _ _ _ _ _)
   | (with_reducible exact ih3 _ _ _ _ _ _ _ _ _ _ _)
   | (with_reducible exact ih4 _ _ _ _ _ _ _)
   | (with_reducible exact ih5 _ _ _ _ _ _ _ _ _ _)
   | (with_reducible exact ih6 _ _ _ _ _ _ _ _ _ _ _)
   | (with_reducible exact ih7 _ _ _ _ _ _ _ _ _ _ _)
   | (with_reducible exact impl_FitWindow.mono _ _ _ _ _ _)
   | (with_reducible exact impl_Owner.mono _ _ _ _ _)
   | (with_reducible exact impl_PlanOk.mono _ _ _ _)
   | (with_reducible exact impl_RunJobs.mono _ _ _ _ _ _)
   | (with_reducible exact impl_Share.mono _ _ _ _ _)
   | (with_reducible exact laws_sameInts.mono _ _ _)
   | (with_reducible exact spec_DrawPlan17.mono _ _)
   | (with_reducible exact LeO.refl _)
   | (with_reducible exact LeO.none _)
   | (with_reducible refine LeO.ite ?_ ?_)
   | (with_reducible refine LeO.bind ?_ (fun _ => ?_))
   | exact ih0 _ _ _ _ _ _ _ _
   | exact ih1 _ _ _ _ _ _ _ _ _ _
   | exact ih2 _ _ _ _ _ _ _ _ _
   | exact ih3 _ _ _ _ _ _ _ _ _ _ _
   | exact ih4 _ _ _ _ _ _ _
   | exact ih5 _ _ _ _ _ _ _ _ _ _
   | exact ih6 _ _ _ _ _ _ _ _ _ _ _
   | exact ih7 _ _ _ _ _ _ _ _ _ _ _
   | exact impl_FitWindow.mono _ _ _ _ _ _
   | exact impl_Owner.mono _ _ _ _ _
   | exact impl_PlanOk.mono _ _ _ _
   | exact impl_RunJobs.mono _ _ _ _ _ _
   | exact impl_Share.mono _ _ _ _ _
   | exact laws_sameInts.mono _ _ _
   | exact spec_DrawPlan17.mono _ _
   | exact LeO.none _
   | refine LeO.ite ?_ ?_
   | refine LeO.bind ?_ (fun _ => ?_)
  ·
   intro y0 y1 y2 y3 y4 y5 y6 y7 y8 y9 y10
   unfold laws_FnWindows.j7
   repeat' first
   | (with_reducible exact ih0 _ _ _ _ _ _ _ _)
   | (with_reducible exact ih1 _ _ _ _ _ _ _ _ _ _)
   | (with_reducible exact ih2 _ _ _ _ _ _ _ _ _)
   | (with_reducible exact ih3 _ _ _ _ _ _ _ _ _ _ _)
   | (with_reducible exact ih4 _ _ _ _ _ _ _)
   | (with_reducible exact ih5 _ _ _ _ _ _ _ _ _ _)
   | (with_reducible exact ih6 _ _ _ _ _ _ _ _ _ _ _)
   | (with_reducible exact ih7 _ _ _ _ _ _ _ _ _ _ _)
   | (with_reducible exact impl_FitWindow.mono _ _ _ _ _ _)
   | (with_reducible exact impl_Owner.mono _ _ _ _ _)
   | (with_reducible exact impl_PlanOk.mono _ _ _ _)
   | (with_reducible exact impl_RunJobs.mono _ _ _ _ _ _)
   | (with_reducible exact impl_Share.mono _ _ _ _ _)
   | (with_reducible exact laws_sameInts.mono _ _ _)
   | (with_reducible exact spec_DrawPlan17.mono _ _)
   | (with_reducible exact LeO.refl _)
   | (with_reducible exact LeO.none _)
   | (with_reducible refine LeO.ite ?_ ?_)
   | (with_reducible refine LeO.bind ?_ (fun _ => ?_))
   | exact ih0 _ _ _ _ _ _ _ _
   | exact ih1 _ _ _ _ _ _ _ _ _ _
   | exact ih2 _ _ _ _ _ _ _ _ _
   | exact ih3 _ _ _ _ _ _ _ _ _ _ _
   | exact ih4 _ _ _ _ _ _ _
   | exact ih5 _ _ _ _ _ _ _ _ _ _
   | exact ih6 _ _ _ _ _ _ _ _ _ _ _
   | exact ih7 _ _ _ _ _ _ _ _ _ _ _
   | exact impl_FitWindow.mono _ _ _ _ _ _
   | exact impl_Owner.mono _ _ _ _ _
   | exact impl_PlanOk.mono _ _ _ _
   | exact impl_RunJobs.mono _ _ _ _ _ _
   | exact impl_Share.mono _ _ _ _ _
   | exact laws_sameInts.mono _ _ _
   | exact spec_DrawPlan17.mono _ _
   | exact LeO.none _
   | refine LeO.ite ?_ ?_
   | refine LeO.bind ?_ (fun _ => ?_)
theorem laws_FnWindows.mono : ∀ a0 k, LeO (laws_FnWindows.f k a0) (laws_FnWindows.f (k + 1) a0) := by
 intro a0 k
 obtain ⟨ih0, ih1, ih2, ih3, ih4, ih5, ih6, ih7⟩ := laws_FnWindows.mono_l k
 unfold laws_FnWindows.f
 repeat' first
   | (with_reducible exact ih0 _ _ _ _ _ _ _ _)
   | (with_reducible exact ih1 _ _ _ _ _ _ _ _ _ _)
   | (with_reducible exact ih2 _ _ _ _ _ _ _ _ _)
   | (with_reducible exact ih3 _ _ _ _ _ _ _ _ _ _ _)
   | (with_reducible exact ih4 _ _ _ _ _ _ _)
   | (with_reducible exact ih5 _ _ _ _ _ _ _ _ _ _)
   | (with_reducible exact ih6 _ _ _ _ _ _ _ _ _ _ _)
   | (with_reducible exact ih7 _ _ _ _ _ _ _ _ _ _ _)
   | (with_reducible exact impl_FitWindow.mono _ _ _ _ _ _)
   | (with_reducible exact impl_Owner.mono _ _ _ _ _)
   | (with_reducible exact impl_PlanOk.mono _ _ _ _)
   | (with_reducible exact impl_RunJobs.mono _ _ _ _ _ _)
   | (with_reducible exact impl_Share.mono _ _ _ _ _)
   | (with_reducible exact laws_sameInts.mono _ _ _)
   | (with_reducible exact spec_DrawPlan17.mono _ _)
   | (with_reducible exact LeO.refl _)
   | (with_reducible exact LeO.none _)
   | (with_reducible refine LeO.ite ?_ ?_)
   | (with_reducible refine LeO.bind ?_ (fun _ => ?_))
   | exact ih0 _ _ _ _ _ _ _ _
   | exact ih1 _ _ _ _ _ _ _ _ _ _
   | exact ih2 _ _ _ _ _ _ _ _ _
   | exact ih3 _ _ _ _ _ _ _ _ _ _ _
   | exact ih4 _ _ _ _ _ _ _
   | exact ih5 _ _ _ _ _ _ _ _ _ _
   | exact ih6 _ _ _ _ _ _ _ _ _ _ _
   | exact ih7 _ _ _ _ _ _ _ _ _ _ _
   | exact impl_FitWindow.mono _ _ _ _ _ _
   | exact impl_Owner.mono _ _ _ _ _
   | exact impl_PlanOk.mono _ _ _ _
   | exact impl_RunJobs.mono _ _ _ _ _ _
   | exact impl_Share.mono _ _ _ _ _
   | exact laws_sameInts.mono _ _ _
   | exact spec_DrawPlan17.mono _ _
   | exact LeO.none _
   | refine LeO.ite ?_ ?_
   | refine LeO.bind ?_ (fun _ => ?_)
def laws_FnWindows.T26 : Bool × List (List Nat × List Nat) := (true, [([], []), ([], []), ([1], [1]), ([2], [2]), ([3], [3]), ([0, 4, 2], [0, 4]), ([5], [5]), ([6], [6]), ([6], [6]), ([], []), ([9, 7, 5, 0, 1, 2, 3, 4, 5, 6, 7, 9], [7, 9]), ([8, 10, 0, 1, 2, 3, 4, 5, 6, 7, 8, 9, 10], [8])])
def laws_FnWindows.B26 : List Nat := [0, 0, 2, 6, 14, 31, 63, 127, 127, 0, 767, 2047]
theorem laws_FnWindows.tab26 : rtab .any (opsOf Try.f7 26) = laws_FnWindows.T26 := by kernel_rfl
theorem laws_FnWindows.bits26 : waitsOk laws_FnWindows.T26.2 laws_FnWindows.B26 = true := by kernel_rfl
set_option maxHeartbeats 8000000 in
set_option maxRecDepth 100000 in
theorem laws_FnWindows.calls (k : Nat) (A0 : Option Addr) (c0 : Nat) (l0 : List Int) (r : Bool) (w : World) (hr0 : Kd.C (Kd.int .u8) w A0 l0.length l0) (hc0 : l0.length ≤ c0) (h : laws_FnWindows.f k l0 = some r) :
  Calls Try.prog 7 #[.slice A0 l0.length c0] w fun e w' => e = .returned (.bool r) ∧ Below w.heap.size w w' := by
 have hu30 := Try.underlying30
 have HR0 := Aside0.mk hr0
 have HC0 := Aside0.mk hc0
 clear hr0 hc0
 have HB := Aside0.mk (Below.refl w.heap.size w)
 have H : ((laws_big.f l0).bind fun t272 => (if t272 = true then (some true) else ((spec_DrawPlan17.f k l0).bind fun bt273 => (laws_FnWindows.l0 k l0 bt273.2.2.2 0 (([] : List Int)) 0 bt273.1 bt273.2.1 bt273.2.2.1)))) = some r := h
 clear h
 replace H := Option.bind_eq_some_iff.mp H
 obtain ⟨t272, A20, H⟩ := H
 replace H : (if t272 = true then (some true) else ((spec_DrawPlan17.f k l0).bind fun bt273 => (laws_FnWindows.l0 k l0 bt273.2.2.2 0 (([] : List Int)) 0 bt273.1 bt273.2.1 bt273.2.2.1))) = some r := H
 have A2 := Aside0.mk A20
 clear A20
 by_cases c3 : t272 = true
 ·
  subst c3
  have H1 : (some true) = some r := by rw [if_pos rfl] at H; exact H
  clear H
  have H := H1
  clear H1
  obtain rfl := Option.some.inj H
  go_enter Try.func7, Try.ntmps7
  go_wp2_with (first | ((with_reducible refine gate_callee (f := 18) rfl ?_); refine goesL_ (some 31) rfl rfl Try.func18 (by kernel_rfl) rfl #[.slice A0 l0.length c0] rfl (by (try simp only [List.map_toArray, List.map_cons, List.map_nil]); first | done | rfl | (simp only [List.length_drop, List.length_take]; rfl)) ?_; (with_reducible refine (laws_big.calls _ _ l0 true _ ?side1 ?side2 A2.out).mono ?_); (case side1 => repeat (first | exact HR0.out | (with_reducible refine Kd.C_alloc ?_ _) | (with_reducible refine Kd.C_drewN ?_ _) | (with_reducible refine Kd.C_drew ?_))); (case side2 => exact HC0.out); rintro e w' ⟨rfl, ⟨nd, rfl⟩⟩; refine ⟨_, rfl, ?_⟩))
  go_ret
  exact ⟨by first | rfl | (simp [errW_none, errW_some] <;> rfl) | (simp [*, errW_none, errW_some] <;> rfl), by repeat (first | (with_reducible first | exact HB.out | apply below_alloc | apply pw_below_drewN | apply below_drew1) | exact HB.out)⟩
 ·
  replace c3 := Bool.eq_false_iff.mpr c3
  subst c3
  have H1 : ((spec_DrawPlan17.f k l0).bind fun bt273 => (laws_FnWindows.l0 k l0 bt273.2.2.2 0 (([] : List Int)) 0 bt273.1 bt273.2.1 bt273.2.2.1)) = some r := by rw [if_neg (show ¬ (false = true) by decide)] at H; exact H
  clear H
  have H := H1
  clear H1
  replace H := Option.bind_eq_some_iff.mp H
  obtain ⟨⟨t273, t274, t275, t278⟩, A40, H⟩ := H
  replace H : (laws_FnWindows.l0 k l0 t278 0 (([] : List Int)) 0 t273 t274 t275) = some r := H
  have A4 := Aside0.mk A40
  clear A40
  obtain ⟨y282, hy282⟩ : ∃ y_ : List Int, y_ = (([] : List Int)) := ⟨_, rfl⟩
  replace H : (laws_FnWindows.l0 k l0 t278 0 y282 0 t273 t274 t275) = some r := by first | (rw [hy282]; with_reducible exact H) | (have H2_ := (Option.bind_some _ _).symm.trans H; rw [hy282]; with_reducible exact H2_) | (have H2_ := (Option.bind_some _ _).symm.trans H; with_reducible exact H2_) | with_reducible exact H | (rw [hy282]; exact H) | exact H
  have Ny282 := Aside0.mk hy282
  clear hy282
  have H' := Aside0.mk H
  clear H
  go_enter Try.func7, Try.ntmps7
  go_wp2_with (first | ((with_reducible refine gate_callee (f := 18) rfl ?_); refine goesL_ (some 31) rfl rfl Try.func18 (by kernel_rfl) rfl #[.slice A0 l0.length c0] rfl (by (try simp only [List.map_toArray, List.map_cons, List.map_nil]); first | done | rfl | (simp only [List.length_drop, List.length_take]; rfl)) ?_; (with_reducible refine (laws_big.calls _ _ l0 false _ ?side1 ?side2 A2.out).mono ?_); (case side1 => repeat (first | exact HR0.out | (with_reducible refine Kd.C_alloc ?_ _) | (with_reducible refine Kd.C_drewN ?_ _) | (with_reducible refine Kd.C_drew ?_))); (case side2 => exact HC0.out); rintro e w' ⟨rfl, ⟨nd, rfl⟩⟩; refine ⟨_, rfl, ?_⟩) | ((with_reducible refine gate_callee (f := 41) rfl ?_); refine goesL_ (some 34) rfl rfl Try.func41 (by kernel_rfl) rfl #[.slice A0 l0.length c0] rfl (by (try simp only [List.map_toArray, List.map_cons, List.map_nil]); first | done | rfl | (simp only [List.length_drop, List.length_take]; rfl)) ?_; (with_reducible refine (spec_DrawPlan17.calls k _ _ l0 t273 t274 t275 t278 _ ?side1 ?side2 A4.out).mono ?_); (case side1 => repeat (first | exact HR0.out | (with_reducible refine Kd.C_alloc ?_ _) | (with_reducible refine Kd.C_drewN ?_ _) | (with_reducible refine Kd.C_drew ?_))); (case side2 => exact HC0.out); rintro e w5 ⟨v276, v279, rfl, ho0, ho1, hb⟩; refine ⟨_, rfl, ?_⟩; have n0_ := Aside0.mk (Kd.R_lower ho0 (below_size (by repeat (first | (with_reducible first | exact HB.out | apply below_alloc | apply pw_below_drewN | apply below_drew1) | exact HB.out)))); have n1_ := Aside0.mk (Kd.R_lower ho1 (below_size (by repeat (first | (with_reducible first | exact HB.out | apply below_alloc | apply pw_below_drewN | apply below_drew1) | exact HB.out)))); have n2_ := Aside0.mk (below_step (by repeat (first | (with_reducible first | exact HB.out | apply below_alloc | apply pw_below_drewN | apply below_drew1) | exact HB.out)) hb); clear HB; have HO277 := n0_; have HO280 := n1_; have HB := n2_; clear n0_ n1_ n2_; (try clear hb); (try clear hb2); (try clear hk); (try clear hi); (try clear ho0); (try clear ho1)) | ((with_reducible refine gate_dst (N := 3) rfl ?_); (try (refine gate_guard (by rfl) ?_; dsimp only)); refine box_event ?hg (N := 3) ?hd (cs := #[.int .i64 0, .int .i64 0, .slice none 0 0]) (t := 30) ?hr ?_; (case hd => rfl); (case hg => rfl); (case hr => first | (go_simp; done) | (go_simp; rfl)); intro gb281 hg w6 hbox hb; have n0_ := Aside0.mk (Kd.R_below (by (with_reducible repeat (first | apply Kd.R_alloc | apply Kd.R_drewN | apply Kd.R_drew)); exact HO277.out) hb); have n1_ := Aside0.mk (Kd.R_below (by (with_reducible repeat (first | apply Kd.R_alloc | apply Kd.R_drewN | apply Kd.R_drew)); exact HO280.out) hb); have n2_ := Aside0.mk (below_step (by repeat (first | (with_reducible first | exact HB.out | apply below_alloc | apply pw_below_drewN | apply below_drew1) | exact HB.out)) hb); have n3_ := Aside0.mk (hbox); have n4_ := Aside0.mk ((by rw [hg]; exact (below_size (by repeat (first | (with_reducible first | exact HB.out | apply below_alloc | apply pw_below_drewN | apply below_drew1) | exact HB.out))) : w.heap.size ≤ gb281)); have n5_ := Aside0.mk ((by rw [hg]; exact (below_size (by repeat (first | (with_reducible first | exact HB.out | apply below_alloc | apply pw_below_drewN | apply below_drew1) | exact HB.out))) : w.heap.size ≤ gb281)); clear HO277; clear HO280; clear HB; have HO277 := n0_; have HO280 := n1_; have HB := n2_; have BK281 := n3_; have GW281 := n4_; have GE281 := n5_; clear n0_ n1_ n2_ n3_ n4_ n5_; clear hb hbox hg; have hcz7_0 : w6.cell? ⟨gb281, 0, none⟩ = some (.int .i64 0) := (blk_cell BK281.out 0).trans rfl; have hcz7_1 : w6.cell? ⟨gb281, 1, none⟩ = some (.int .i64 0) := (blk_cell BK281.out 1).trans rfl; have hcz7_2 : w6.cell? ⟨gb281, 2, none⟩ = some (.slice none 0 0) := (blk_cell BK281.out 2).trans rfl; have hfz7_0 := blk_frozen BK281.out 0; have hfz7_1 := blk_frozen BK281.out 1; have hfz7_2 := blk_frozen BK281.out 2; obtain ⟨Ao8, co8, eo8⟩ := Kd.R_slice HO277.out; subst eo8) | ((with_reducible refine gate_dst (N := 37) rfl ?_); (try (refine gate_guard (by rfl) ?_; dsimp only)); refine Kd.R_lit (Kd.int .i64) _ 3 ?hg (N := 37) ?hd (xs := ([] : List Int)) (inner := []) (ok := fun _ => True) (okp := fun _ => True) ?hr ?hp (fun _ hk => hk) trivial (Below.refl _ _) (Nat.le_refl _) (by simp) ?_; (case hd => rfl); (case hg => rfl); (case hr => first | (go_simp; done) | (go_simp; rfl)); (case hp => exact (Reps.none _ _)); intro v283 w9 ho10 hb hg_ hnew_; clear hg_ hnew_; (first | rw [← Ny282.out] at ho10 | (simp only [Int.reduceToNat] at ho10; rw [← Ny282.out] at ho10)); have n0_ := Aside0.mk (Kd.R_below (by (with_reducible repeat (first | apply Kd.R_alloc | apply Kd.R_drewN | apply Kd.R_drew)); exact (Kd.R_mono (Kd.R_far (p := ⟨gb281, 2, none⟩) (Kd.R_far (p := ⟨gb281, 1, none⟩) (Kd.R_far (p := ⟨gb281, 0, none⟩) (Kd.R_types HO277.out BK281.out (by decide)) (fun _ hk => hk.2) (.int .i64 t273)) (fun _ hk => hk.2) (.int .i64 t274)) (fun _ hk => hk.2) (.slice Ao8 t275.length co8)) (fun _ h_ => h_.1))) hb); have n1_ := Aside0.mk (Kd.R_below (by (with_reducible repeat (first | apply Kd.R_alloc | apply Kd.R_drewN | apply Kd.R_drew)); exact (Kd.R_mono (Kd.R_far (p := ⟨gb281, 2, none⟩) (Kd.R_far (p := ⟨gb281, 1, none⟩) (Kd.R_far (p := ⟨gb281, 0, none⟩) (Kd.R_types HO280.out BK281.out (by decide)) (fun _ hk => hk.2) (.int .i64 t273)) (fun _ hk => hk.2) (.int .i64 t274)) (fun _ hk => hk.2) (.slice Ao8 t275.length co8)) (fun _ h_ => h_.1))) hb); have n2_ := Aside0.mk (Kd.R_lower ho10 (below_size (by repeat (first | (with_reducible first | exact HB.out | apply below_alloc | apply pw_below_drewN | apply below_drew1 | refine below_set ?_ GE281.out) | exact HB.out)))); have n3_ := Aside0.mk (blk_below (g := gb281) (o := .cells #[.int .i64 t273, .int .i64 t274, .slice Ao8 t275.length co8] 30 (0, 0)) (by (with_reducible repeat (first | refine blk_drewN ?_ _ | refine blk_drew ?_ | refine blk_alloc ?_ _)); refine blk_put (cs := #[.int .i64 t273, .int .i64 t274, .slice none 0 0]) ?_ 2 _ rfl; (with_reducible repeat (first | refine blk_drewN ?_ _ | refine blk_drew ?_ | refine blk_alloc ?_ _)); refine blk_put (cs := #[.int .i64 t273, .int .i64 0, .slice none 0 0]) ?_ 1 _ rfl; (with_reducible repeat (first | refine blk_drewN ?_ _ | refine blk_drew ?_ | refine blk_alloc ?_ _)); refine blk_put (cs := #[.int .i64 0, .int .i64 0, .slice none 0 0]) ?_ 0 _ rfl; (with_reducible repeat (first | refine blk_drewN ?_ _ | refine blk_drew ?_ | refine blk_alloc ?_ _)); exact BK281.out) hb); have n4_ := Aside0.mk (below_step (by repeat (first | (with_reducible first | exact HB.out | apply below_alloc | apply pw_below_drewN | apply below_drew1 | refine below_set ?_ GE281.out) | exact HB.out)) hb); clear HO277; clear HO280; clear BK281; clear HB; have HO277 := n0_; have HO280 := n1_; have HO284 := n2_; have BK281 := n3_; have HB := n4_; clear n0_ n1_ n2_ n3_ n4_; clear hb ho10))
  go_loopg [5, 6, 7] k (fun kq v5 v6 v7 w' => ∃ (x5_1 : Int) (x6_1 : List Int) (x7_1 : Int), v5 = .int .i64 x5_1 ∧ v7 = .int .i64 x7_1 ∧ Aside0 (laws_FnWindows.l0 kq l0 t278 x5_1 x6_1 x7_1 t273 t274 t275 = some r) ∧ Aside0 (kq ≤ k) ∧ Aside0 (Kd.R k180 180 w' w.heap.size (fun _ => True) v279 t278) ∧ Aside0 (Kd.R (Kd.int .i64) 3 w' w.heap.size (fun _ => True) v6 x6_1) ∧ Aside0 (Kd.R k143 143 w' w.heap.size (fun _ => True) (.slice Ao8 t275.length co8) t275) ∧ Aside0 (w'.heap[gb281]? = some (.cells #[.int .i64 t273, .int .i64 t274, (.slice Ao8 t275.length co8)] 30 (0, 0))) ∧ Aside0 (Below w.heap.size w w'))
  case atStart => exact ⟨(0), (y282), (0), (by first | rfl | (simp; done) | (simp [*]; done)), (by first | rfl | (simp; done) | (simp [*]; done)), H', ⟨Nat.le_refl _⟩, ⟨by (with_reducible repeat (first | apply Kd.R_alloc | apply Kd.R_drewN | apply Kd.R_drew)); exact HO280.out⟩, ⟨by (with_reducible repeat (first | apply Kd.R_alloc | apply Kd.R_drewN | apply Kd.R_drew)); exact HO284.out⟩, ⟨by (with_reducible repeat (first | apply Kd.R_alloc | apply Kd.R_drewN | apply Kd.R_drew)); exact HO277.out⟩, ⟨by (with_reducible repeat (first | refine blk_drewN ?_ _ | refine blk_drew ?_ | refine blk_alloc ?_ _)); exact BK281.out⟩, ⟨by repeat (first | (with_reducible first | exact HB.out | apply below_alloc | apply pw_below_drewN | apply below_drew1 | refine below_set ?_ GE281.out) | exact HB.out)⟩⟩
  case round =>
   clear H'
   try clear c1
   try clear p2
   try clear c3
   try clear c4
   try clear c7
   try clear hcz7_0
   try clear hcz7_1
   try clear hcz7_2
   try clear hfz7_0
   try clear hfz7_1
   try clear hfz7_2
   obtain ⟨x5_1, x6_1, x7_1, rfl, rfl, HA, HK1, HO_4, HO_6, HO_282002, BK281, HB⟩ := hrel
   cases gk with
   | zero => exact absurd HA.out (by simp [laws_FnWindows.l0])
   | succ k1 =>
    have H := HA.out
    clear HA
    simp only [laws_FnWindows.l0] at H
    by_cases c11 : x7_1 < t274
    ·
     rw [if_pos c11] at H
     have c11b0 : decide (x7_1 < t274) = true := decide_eq_true c11
     clear c11
     replace H := Option.bind_eq_some_iff.mp H
     obtain ⟨⟨t285, t286, t287⟩, A120, H⟩ := H
     replace H : (if t287 = true then (if t286 < 0 then (laws_FnWindows.j1 k1 l0 t278 x5_1 x6_1 x7_1 t285 true t273 t274 t275) else (if t286 > t273 then (laws_FnWindows.j1 k1 l0 t278 x5_1 x6_1 x7_1 t285 true t273 t274 t275) else (laws_FnWindows.j1 k1 l0 t278 x5_1 x6_1 x7_1 t285 (decide (t285 < 0)) t273 t274 t275))) else (laws_FnWindows.j1 k1 l0 t278 x5_1 x6_1 x7_1 t285 true t273 t274 t275)) = some r := H
     have A12 := Aside0.mk A120
     clear A120
     have HC13 := Aside0.mk H
     clear H
     have hcz14_0 : wr.cell? ⟨gb281, 0, none⟩ = some (.int .i64 t273) := (blk_cell BK281.out 0).trans rfl
     have hcz14_1 : wr.cell? ⟨gb281, 1, none⟩ = some (.int .i64 t274) := (blk_cell BK281.out 1).trans rfl
     have hcz14_2 : wr.cell? ⟨gb281, 2, none⟩ = some (.slice Ao8 t275.length co8) := (blk_cell BK281.out 2).trans rfl
     have hfz14_0 := blk_frozen BK281.out 0
     have hfz14_1 := blk_frozen BK281.out 1
     have hfz14_2 := blk_frozen BK281.out 2
     go_upto_region 10 with (first | ((with_reducible refine gate_callee (f := 16) rfl ?_); refine goesL_ (some 47) rfl rfl Try.func16 (by kernel_rfl) rfl #[.agg #[.int .i64 t273, .int .i64 t274, .slice Ao8 t275.length co8], .int .i64 x7_1] rfl (by (try simp only [List.map_toArray, List.map_cons, List.map_nil]); first | done | rfl | (simp only [List.length_drop, List.length_take]; rfl)) ?_; (with_reducible refine (impl_Share.calls k1 t273 t274 _ _ t275 x7_1 t285 t286 t287 _ ?side1 ?side2 A12.out).mono ?_); (case side1 => repeat (first | exact (Kd.R_reads' HO_282002.out).2.2 | (with_reducible refine Kd.C_alloc ?_ _) | (with_reducible refine Kd.C_drewN ?_ _) | (with_reducible refine Kd.C_drew ?_))); (case side2 => exact (Kd.R_reads' HO_282002.out).2.1); rintro e w15 ⟨rfl, hb⟩; refine ⟨_, rfl, ?_⟩; have n0_ := Aside0.mk (Kd.R_below (by (with_reducible repeat (first | apply Kd.R_alloc | apply Kd.R_drewN | apply Kd.R_drew)); exact HO_4.out) hb); have n1_ := Aside0.mk (Kd.R_below (by (with_reducible repeat (first | apply Kd.R_alloc | apply Kd.R_drewN | apply Kd.R_drew)); exact HO_6.out) hb); have n2_ := Aside0.mk (Kd.R_below (by (with_reducible repeat (first | apply Kd.R_alloc | apply Kd.R_drewN | apply Kd.R_drew)); exact HO_282002.out) hb); have n3_ := Aside0.mk (blk_below (g := gb281) (o := .cells #[.int .i64 t273, .int .i64 t274, .slice Ao8 t275.length co8] 30 (0, 0)) (by (with_reducible repeat (first | refine blk_drewN ?_ _ | refine blk_drew ?_ | refine blk_alloc ?_ _)); exact BK281.out) hb); have n4_ := Aside0.mk (below_step (by repeat (first | (with_reducible first | exact HB.out | apply below_alloc | apply pw_below_drewN | apply below_drew1 | refine below_set ?_ GE281.out) | exact HB.out)) hb); clear HO_4; clear HO_6; clear HO_282002; clear BK281; clear HB; have HO_4 := n0_; have HO_6 := n1_; have HO_282002 := n2_; have BK281 := n3_; have HB := n4_; clear n0_ n1_ n2_ n3_ n4_; (try clear hb); (try clear hb2); (try clear hk); (try clear hi)))
     (try simp only [Act.put, List.setIfInBounds_toArray, List.set_cons_zero, List.set_cons_succ])
     go_cut [66] (fun v66 wc => ∃ (kq : Nat) (x66_12 : Bool), v66 = .bool x66_12 ∧ Aside0 (laws_FnWindows.j1 kq l0 t278 x5_1 x6_1 x7_1 t285 x66_12 t273 t274 t275 = some r) ∧ Aside0 (kq ≤ k1) ∧ Aside0 (Kd.R k180 180 wc w.heap.size (fun _ => True) v279 t278) ∧ Aside0 (Kd.R (Kd.int .i64) 3 wc w.heap.size (fun _ => True) u6 x6_1) ∧ Aside0 (Kd.R k143 143 wc w.heap.size (fun _ => True) (.slice Ao8 t275.length co8) t275) ∧ Aside0 (wc.heap[gb281]? = some (.cells #[.int .i64 t273, .int .i64 t274, (.slice Ao8 t275.length co8)] 30 (0, 0))) ∧ Aside0 (Below w.heap.size w wc))
     case first =>
      have H := HC13.out
      clear HC13
      by_cases c16 : t287 = true
      ·
       subst c16
       have H1 : (if t286 < 0 then (laws_FnWindows.j1 k1 l0 t278 x5_1 x6_1 x7_1 t285 true t273 t274 t275) else (if t286 > t273 then (laws_FnWindows.j1 k1 l0 t278 x5_1 x6_1 x7_1 t285 true t273 t274 t275) else (laws_FnWindows.j1 k1 l0 t278 x5_1 x6_1 x7_1 t285 (decide (t285 < 0)) t273 t274 t275))) = some r := by rw [if_pos rfl] at H; exact H
       clear H
       have H := H1
       clear H1
       by_cases c17 : t286 < 0
       ·
        rw [if_pos c17] at H
        have c17b0 : decide (t286 < 0) = true := decide_eq_true c17
        clear c17
        (first | rw [c17b0] | (simp only [i64_w, i32_w]; rw [c17b0]) | skip)
        have H' := Aside0.mk H
        clear H
        go_wp2
        go_meet
        case rel => exact ⟨_, (true), (by first | rfl | (simp; done) | (simp [*]; done)), H', ⟨by have := HK1.out; first | omega | exact Nat.le_refl _⟩, ⟨by (with_reducible repeat (first | apply Kd.R_alloc | apply Kd.R_drewN | apply Kd.R_drew)); exact HO_4.out⟩, ⟨by (with_reducible repeat (first | apply Kd.R_alloc | apply Kd.R_drewN | apply Kd.R_drew)); exact HO_6.out⟩, ⟨by (with_reducible repeat (first | apply Kd.R_alloc | apply Kd.R_drewN | apply Kd.R_drew)); exact HO_282002.out⟩, ⟨by (with_reducible repeat (first | refine blk_drewN ?_ _ | refine blk_drew ?_ | refine blk_alloc ?_ _)); exact BK281.out⟩, ⟨by repeat (first | (with_reducible first | exact HB.out | apply below_alloc | apply pw_below_drewN | apply below_drew1 | refine below_set ?_ GE281.out) | exact HB.out)⟩⟩
       ·
        rw [if_neg c17] at H
        have c17b0 : decide (t286 < 0) = false := decide_eq_false c17
        clear c17
        (first | rw [c17b0] | (simp only [i64_w, i32_w]; rw [c17b0]) | skip)
        by_cases c18 : t286 > t273
        ·
         rw [if_pos c18] at H
         have c18b0 : decide (t273 < t286) = true := decide_eq_true c18
         clear c18
         have H' := Aside0.mk H
         clear H
         have hcz19_0 : w15.cell? ⟨gb281, 0, none⟩ = some (.int .i64 t273) := (blk_cell BK281.out 0).trans rfl
         have hcz19_1 : w15.cell? ⟨gb281, 1, none⟩ = some (.int .i64 t274) := (blk_cell BK281.out 1).trans rfl
         have hcz19_2 : w15.cell? ⟨gb281, 2, none⟩ = some (.slice Ao8 t275.length co8) := (blk_cell BK281.out 2).trans rfl
         have hfz19_0 := blk_frozen BK281.out 0
         have hfz19_1 := blk_frozen BK281.out 1
         have hfz19_2 := blk_frozen BK281.out 2
         go_wp2
         go_meet
         case rel => exact ⟨_, (true), (by first | rfl | (simp; done) | (simp [*]; done)), H', ⟨by have := HK1.out; first | omega | exact Nat.le_refl _⟩, ⟨by (with_reducible repeat (first | apply Kd.R_alloc | apply Kd.R_drewN | apply Kd.R_drew)); exact HO_4.out⟩, ⟨by (with_reducible repeat (first | apply Kd.R_alloc | apply Kd.R_drewN | apply Kd.R_drew)); exact HO_6.out⟩, ⟨by (with_reducible repeat (first | apply Kd.R_alloc | apply Kd.R_drewN | apply Kd.R_drew)); exact HO_282002.out⟩, ⟨by (with_reducible repeat (first | refine blk_drewN ?_ _ | refine blk_drew ?_ | refine blk_alloc ?_ _)); exact BK281.out⟩, ⟨by repeat (first | (with_reducible first | exact HB.out | apply below_alloc | apply pw_below_drewN | apply below_drew1 | refine below_set ?_ GE281.out) | exact HB.out)⟩⟩
        ·
         rw [if_neg c18] at H
         have c18b0 : decide (t273 < t286) = false := decide_eq_false c18
         clear c18
         have H' := Aside0.mk H
         clear H
         have hcz20_0 : w15.cell? ⟨gb281, 0, none⟩ = some (.int .i64 t273) := (blk_cell BK281.out 0).trans rfl
         have hcz20_1 : w15.cell? ⟨gb281, 1, none⟩ = some (.int .i64 t274) := (blk_cell BK281.out 1).trans rfl
         have hcz20_2 : w15.cell? ⟨gb281, 2, none⟩ = some (.slice Ao8 t275.length co8) := (blk_cell BK281.out 2).trans rfl
         have hfz20_0 := blk_frozen BK281.out 0
         have hfz20_1 := blk_frozen BK281.out 1
         have hfz20_2 := blk_frozen BK281.out 2
         go_wp2
         go_meet
         case rel => exact ⟨_, (decide (t285 < 0)), (by first | rfl | (simp; done) | (simp [*]; done)), H', ⟨by have := HK1.out; first | omega | exact Nat.le_refl _⟩, ⟨by (with_reducible repeat (first | apply Kd.R_alloc | apply Kd.R_drewN | apply Kd.R_drew)); exact HO_4.out⟩, ⟨by (with_reducible repeat (first | apply Kd.R_alloc | apply Kd.R_drewN | apply Kd.R_drew)); exact HO_6.out⟩, ⟨by (with_reducible repeat (first | apply Kd.R_alloc | apply Kd.R_drewN | apply Kd.R_drew)); exact HO_282002.out⟩, ⟨by (with_reducible repeat (first | refine blk_drewN ?_ _ | refine blk_drew ?_ | refine blk_alloc ?_ _)); exact BK281.out⟩, ⟨by repeat (first | (with_reducible first | exact HB.out | apply below_alloc | apply pw_below_drewN | apply below_drew1 | refine below_set ?_ GE281.out) | exact HB.out)⟩⟩
      ·
       replace c16 := Bool.eq_false_iff.mpr c16
       subst c16
       have H1 : (laws_FnWindows.j1 k1 l0 t278 x5_1 x6_1 x7_1 t285 true t273 t274 t275) = some r := by rw [if_neg (show ¬ (false = true) by decide)] at H; exact H
       clear H
       have H := H1
       clear H1
       have H' := Aside0.mk H
       clear H
       go_wp2
       go_meet
       case rel => exact ⟨_, (true), (by first | rfl | (simp; done) | (simp [*]; done)), H', ⟨by have := HK1.out; first | omega | exact Nat.le_refl _⟩, ⟨by (with_reducible repeat (first | apply Kd.R_alloc | apply Kd.R_drewN | apply Kd.R_drew)); exact HO_4.out⟩, ⟨by (with_reducible repeat (first | apply Kd.R_alloc | apply Kd.R_drewN | apply Kd.R_drew)); exact HO_6.out⟩, ⟨by (with_reducible repeat (first | apply Kd.R_alloc | apply Kd.R_drewN | apply Kd.R_drew)); exact HO_282002.out⟩, ⟨by (with_reducible repeat (first | refine blk_drewN ?_ _ | refine blk_drew ?_ | refine blk_alloc ?_ _)); exact BK281.out⟩, ⟨by repeat (first | (with_reducible first | exact HB.out | apply below_alloc | apply pw_below_drewN | apply below_drew1 | refine below_set ?_ GE281.out) | exact HB.out)⟩⟩
     case rest =>
      clear HC13
      try clear c1
      try clear p2
      try clear c3
      try clear c4
      try clear c7
      try clear c11
      try clear c11b0
      try clear c16
      try clear c17
      try clear c17b0
      try clear c18
      try clear c18b0
      try clear hcz14_0
      try clear hcz14_1
      try clear hcz14_2
      try clear hcz19_0
      try clear hcz19_1
      try clear hcz19_2
      try clear hcz20_0
      try clear hcz20_1
      try clear hcz20_2
      try clear hcz7_0
      try clear hcz7_1
      try clear hcz7_2
      try clear hfz14_0
      try clear hfz14_1
      try clear hfz14_2
      try clear hfz19_0
      try clear hfz19_1
      try clear hfz19_2
      try clear hfz20_0
      try clear hfz20_1
      try clear hfz20_2
      try clear hfz7_0
      try clear hfz7_1
      try clear hfz7_2
      try clear p2
      obtain ⟨kq, x66_12, rfl, HA, HJ12, HO_4, HO_6, HO_282002, BK281, HB⟩ := hcut
      cases kq with
      | zero => exact absurd HA.out (by simp [laws_FnWindows.j1])
      | succ kj12 =>
       have H := HA.out
       clear HA
       simp only [laws_FnWindows.j1] at H
       by_cases c21 : x66_12 = true
       ·
        subst c21
        have H1 : (some false) = some r := by rw [if_pos rfl] at H; exact H
        clear H
        have H := H1
        clear H1
        obtain rfl := Option.some.inj H
        go_wp2
        go_ret
        exact ⟨by first | rfl | (simp [errW_none, errW_some] <;> rfl) | (simp [*, errW_none, errW_some] <;> rfl), by repeat (first | (with_reducible first | exact HB.out | apply below_alloc | apply pw_below_drewN | apply below_drew1 | refine below_set ?_ GE281.out) | exact HB.out)⟩
       ·
        replace c21 := Bool.eq_false_iff.mpr c21
        subst c21
        have H1 : (if x6_1.length < 17592186044416 then (laws_FnWindows.l0 kj12 l0 t278 (wrap64 (x5_1 + t285)) (x6_1 ++ [t285]) (wrap64 (x7_1 + 1)) t273 t274 t275) else (none)) = some r := by rw [if_neg (show ¬ (false = true) by decide)] at H; exact H
        clear H
        have H := H1
        clear H1
        by_cases c22 : x6_1.length < 17592186044416
        ·
         rw [if_pos c22] at H
         have LMc22 := Aside0.mk c22
         clear c22
         obtain ⟨y288, hy288⟩ : ∃ y_ : List Int, y_ = (x6_1 ++ [t285]) := ⟨_, rfl⟩
         replace H : (laws_FnWindows.l0 kj12 l0 t278 (wrap64 (x5_1 + t285)) y288 (wrap64 (x7_1 + 1)) t273 t274 t275) = some r := by first | (rw [hy288]; with_reducible exact H) | (have H2_ := (Option.bind_some _ _).symm.trans H; rw [hy288]; with_reducible exact H2_) | (have H2_ := (Option.bind_some _ _).symm.trans H; with_reducible exact H2_) | with_reducible exact H | (rw [hy288]; exact H) | exact H
         have Ny288 := Aside0.mk hy288
         clear hy288
         have H' := Aside0.mk H
         clear H
         go_wp2_with (first | ((with_reducible refine gate_builtin (b := .append) (xs := #[.tmp 67, .tmp 69]) rfl ?_); (try (refine gate_guard (by rfl) ?_; dsimp only)); at_builtin; refine Kd.R_append (Kd.int .i64) (w0 := w) w.heap.size rfl (.tmp 67) (.tmp 69) 46 3 (.int .i64 0) 8 rfl Try.underlying46 info3 rfl (by decide) (by omega) u6 x6_1 t285 [.int .i64 t285] (fun _ => True) (fun _ => False) rfl rfl ?aP (fun _ hk => hk.elim) ?aF ?aO ?aB ?aS ?aL ?_; (case aP => exact rfl); (case aB => exact (by repeat (first | (with_reducible first | exact HB.out | apply below_alloc | apply pw_below_drewN | apply below_drew1 | refine below_set ?_ GE281.out) | exact HB.out))); (case aF => exact (fun _ _ => trivial)); (case aO => exact (by (with_reducible repeat (first | apply Kd.R_alloc | apply Kd.R_drewN | apply Kd.R_drew)); exact HO_6.out)); (case aS => exact (below_size (by repeat (first | (with_reducible first | exact HB.out | apply below_alloc | apply pw_below_drewN | apply below_drew1 | refine below_set ?_ GE281.out) | exact HB.out)))); (case aL => have := LMc22.out; omega); intro v289 w23 ho hb hg hat; rw [← Ny288.out] at ho; have n0_ := Aside0.mk (Kd.R_over' (by (with_reducible repeat (first | apply Kd.R_alloc | apply Kd.R_drewN | apply Kd.R_drew)); exact HO_4.out) (Kd.R_typed (by (with_reducible repeat (first | apply Kd.R_alloc | apply Kd.R_drewN | apply Kd.R_drew)); exact HO_6.out)) (by decide) hg); have n1_ := Aside0.mk (Kd.R_over' (by (with_reducible repeat (first | apply Kd.R_alloc | apply Kd.R_drewN | apply Kd.R_drew)); exact HO_282002.out) (Kd.R_typed (by (with_reducible repeat (first | apply Kd.R_alloc | apply Kd.R_drewN | apply Kd.R_drew)); exact HO_6.out)) (by decide) hg); have n2_ := Aside0.mk (blk_grown (g := gb281) (o := .cells #[.int .i64 t273, .int .i64 t274, .slice Ao8 t275.length co8] 30 (0, 0)) (by (with_reducible repeat (first | refine blk_drewN ?_ _ | refine blk_drew ?_ | refine blk_alloc ?_ _)); exact BK281.out) hg (Kd.R_ne HO_6.out BK281.out (by decide))); have n3_ := Aside0.mk (hb); have n4_ := Aside0.mk (ho); clear HO_4; clear HO_282002; clear BK281; clear HB; clear HO_6; have HO_4 := n0_; have HO_282002 := n1_; have BK281 := n2_; have HB := n3_; have HO290 := n4_; clear n0_ n1_ n2_ n3_ n4_; clear ho hb hg hat))
         go_roundg kj12
         case measure => have := HK1.out; have := HJ12.out; omega
         case rel => exact ⟨(wrap64 (x5_1 + t285)), (y288), (wrap64 (x7_1 + 1)), (by first | rfl | (simp; done) | (simp [*]; done)), (by first | rfl | (simp; done) | (simp [*]; done)), H', ⟨by have := HK1.out; have := HJ12.out; omega⟩, ⟨by (with_reducible repeat (first | apply Kd.R_alloc | apply Kd.R_drewN | apply Kd.R_drew)); exact HO_4.out⟩, ⟨by (with_reducible repeat (first | apply Kd.R_alloc | apply Kd.R_drewN | apply Kd.R_drew)); exact HO290.out⟩, ⟨by (with_reducible repeat (first | apply Kd.R_alloc | apply Kd.R_drewN | apply Kd.R_drew)); exact HO_282002.out⟩, ⟨by (with_reducible repeat (first | refine blk_drewN ?_ _ | refine blk_drew ?_ | refine blk_alloc ?_ _)); exact BK281.out⟩, ⟨by repeat (first | (with_reducible first | exact HB.out | apply below_alloc | apply pw_below_drewN | apply below_drew1 | refine below_set ?_ GE281.out) | exact HB.out)⟩⟩
        ·
         rw [if_neg c22] at H
         exact absurd H (by simp)
    ·
     rw [if_neg c11] at H
     have c11b0 : decide (x7_1 < t274) = false := decide_eq_false c11
     clear c11
     by_cases c24 : 0 ≤ t274
     ·
      rw [if_pos c24] at H
      have c24b0 := eq_true c24
      have c24b1 : decide (0 ≤ t274) = true := decide_eq_true c24
      clear c24
      by_cases c25 : (t274 : Int).toNat ≤ 35184372088832
      ·
       rw [if_pos c25] at H
       have c25b0 := eq_true c25
       have c25b1 : decide ((t274 : Int).toNat ≤ 35184372088832) = true := decide_eq_true c25
       clear c25
       obtain ⟨y291, hy291⟩ : ∃ y_ : List Int, y_ = (List.replicate (t274 : Int).toNat 0) := ⟨_, rfl⟩
       replace H : (laws_FnWindows.l1 k1 l0 t278 x5_1 x6_1 y291 0 t273 t274 t275) = some r := by first | (rw [hy291]; with_reducible exact H) | (have H2_ := (Option.bind_some _ _).symm.trans H; rw [hy291]; with_reducible exact H2_) | (have H2_ := (Option.bind_some _ _).symm.trans H; with_reducible exact H2_) | with_reducible exact H | (rw [hy291]; exact H) | exact H
       have Ny291 := Aside0.mk hy291
       clear hy291
       have H' := Aside0.mk H
       clear H
       have hcz26_0 : wr.cell? ⟨gb281, 0, none⟩ = some (.int .i64 t273) := (blk_cell BK281.out 0).trans rfl
       have hcz26_1 : wr.cell? ⟨gb281, 1, none⟩ = some (.int .i64 t274) := (blk_cell BK281.out 1).trans rfl
       have hcz26_2 : wr.cell? ⟨gb281, 2, none⟩ = some (.slice Ao8 t275.length co8) := (blk_cell BK281.out 2).trans rfl
       have hfz26_0 := blk_frozen BK281.out 0
       have hfz26_1 := blk_frozen BK281.out 1
       have hfz26_2 := blk_frozen BK281.out 2
       go_wp2_with (first | ((with_reducible refine gate_dst (N := 76) rfl ?_); (try (refine gate_guard (by rfl) ?_; dsimp only)); refine Kd.R_make (Kd.int .i64) _ 3 rfl (N := 76) rfl 46 _ _ rfl t274 rfl rfl Try.underlying46 (.int .i64 0) 8 info3 rfl (by decide) (by omega) 0 (ok := fun _ => True) (okp := fun _ => True) rfl (fun _ hk => hk) trivial (of_decide_eq_true (by first | (with_reducible assumption) | assumption)) (Nat.le_trans (Nat.mul_le_mul_right _ (of_decide_eq_true (by first | (with_reducible assumption) | assumption) : t274.toNat ≤ 35184372088832)) (by omega)) (Below.refl _ _) (Nat.le_refl _) ?_; intro v292 w27 ho28 hb hg_ hnew_; clear hg_ hnew_; (first | rw [← Ny291.out] at ho28 | (simp only [Int.reduceToNat] at ho28; rw [← Ny291.out] at ho28)); have n0_ := Aside0.mk (Kd.R_below (by (with_reducible repeat (first | apply Kd.R_alloc | apply Kd.R_drewN | apply Kd.R_drew)); exact HO_4.out) hb); have n1_ := Aside0.mk (Kd.R_elder' (by (with_reducible repeat (first | apply Kd.R_alloc | apply Kd.R_drewN | apply Kd.R_drew)); exact HO_6.out) (Kd.R_base ho28) hb); have n2_ := Aside0.mk (Kd.R_below (by (with_reducible repeat (first | apply Kd.R_alloc | apply Kd.R_drewN | apply Kd.R_drew)); exact HO_282002.out) hb); have n3_ := Aside0.mk (Kd.R_lower (Kd.R_new' ho28 (Kd.R_lt (by (with_reducible repeat (first | apply Kd.R_alloc | apply Kd.R_drewN | apply Kd.R_drew)); exact HO_6.out))) (below_size (by repeat (first | (with_reducible first | exact HB.out | apply below_alloc | apply pw_below_drewN | apply below_drew1 | refine below_set ?_ GE281.out) | exact HB.out)))); have n4_ := Aside0.mk (blk_below (g := gb281) (o := .cells #[.int .i64 t273, .int .i64 t274, .slice Ao8 t275.length co8] 30 (0, 0)) (by (with_reducible repeat (first | refine blk_drewN ?_ _ | refine blk_drew ?_ | refine blk_alloc ?_ _)); exact BK281.out) hb); have n5_ := Aside0.mk (below_step (by repeat (first | (with_reducible first | exact HB.out | apply below_alloc | apply pw_below_drewN | apply below_drew1 | refine below_set ?_ GE281.out) | exact HB.out)) hb); clear HO_4; clear HO_6; clear HO_282002; clear BK281; clear HB; have HO_4 := n0_; have HO_6 := n1_; have HO_282002 := n2_; have HO293 := n3_; have BK281 := n4_; have HB := n5_; clear n0_ n1_ n2_ n3_ n4_ n5_; clear hb ho28))
       go_loopg [12] k1 (fun kq v12 w' => ∃ (x11_2 : List Int) (x12_2 : Int), v12 = .int .i64 x12_2 ∧ Aside0 (laws_FnWindows.l1 kq l0 t278 x5_1 x6_1 x11_2 x12_2 t273 t274 t275 = some r) ∧ Aside0 (kq ≤ k1) ∧ Aside0 (Kd.R k180 180 w' w.heap.size (fun _ => True) v279 t278) ∧ Aside0 (Kd.R (Kd.int .i64) 3 w' w.heap.size (fun k_ => some k_ ≠ (v292 : Value).ownBlock) u6 x6_1) ∧ Aside0 (Kd.R (Kd.int .i64) 3 w' w.heap.size (fun k_ => some k_ ≠ (u6 : Value).ownBlock) v292 x11_2) ∧ Aside0 (Kd.R k143 143 w' w.heap.size (fun _ => True) (.slice Ao8 t275.length co8) t275) ∧ Aside0 (w'.heap[gb281]? = some (.cells #[.int .i64 t273, .int .i64 t274, (.slice Ao8 t275.length co8)] 30 (0, 0))) ∧ Aside0 (Below w.heap.size w w'))
       case atStart => exact ⟨(y291), (0), (by first | rfl | (simp; done) | (simp [*]; done)), H', ⟨Nat.le_refl _⟩, ⟨by (with_reducible repeat (first | apply Kd.R_alloc | apply Kd.R_drewN | apply Kd.R_drew)); exact HO_4.out⟩, ⟨by (with_reducible repeat (first | apply Kd.R_alloc | apply Kd.R_drewN | apply Kd.R_drew)); exact Kd.R_mono HO_6.out (fun _ hk => hk.2)⟩, ⟨by (with_reducible repeat (first | apply Kd.R_alloc | apply Kd.R_drewN | apply Kd.R_drew)); exact Kd.R_mono HO293.out (fun _ hk => hk.2)⟩, ⟨by (with_reducible repeat (first | apply Kd.R_alloc | apply Kd.R_drewN | apply Kd.R_drew)); exact HO_282002.out⟩, ⟨by (with_reducible repeat (first | refine blk_drewN ?_ _ | refine blk_drew ?_ | refine blk_alloc ?_ _)); exact BK281.out⟩, ⟨by repeat (first | (with_reducible first | exact HB.out | apply below_alloc | apply pw_below_drewN | apply below_drew1 | refine below_set ?_ GE281.out) | exact HB.out)⟩⟩
       case round =>
        clear H'
        try clear c1
        try clear c2
        try clear p2
        try clear c3
        try clear c4
        try clear p6
        try clear c7
        try clear c11
        try clear c11b0
        try clear c16
        try clear c17
        try clear c17b0
        try clear c18
        try clear c18b0
        try clear c21
        try clear c22
        try clear c24
        try clear c24b0
        try clear c24b1
        try clear c25
        try clear c25b0
        try clear c25b1
        try clear hcz14_0
        try clear hcz14_1
        try clear hcz14_2
        try clear hcz19_0
        try clear hcz19_1
        try clear hcz19_2
        try clear hcz20_0
        try clear hcz20_1
        try clear hcz20_2
        try clear hcz26_0
        try clear hcz26_1
        try clear hcz26_2
        try clear hcz7_0
        try clear hcz7_1
        try clear hcz7_2
        try clear hfz14_0
        try clear hfz14_1
        try clear hfz14_2
        try clear hfz19_0
        try clear hfz19_1
        try clear hfz19_2
        try clear hfz20_0
        try clear hfz20_1
        try clear hfz20_2
        try clear hfz26_0
        try clear hfz26_1
        try clear hfz26_2
        try clear hfz7_0
        try clear hfz7_1
        try clear hfz7_2
        try clear p2
        obtain ⟨x11_2, x12_2, rfl, HA, HK2, HO_4, HO_6, HO_11, HO_282002, BK281, HB⟩ := hrel
        cases gk with
        | zero => exact absurd HA.out (by simp [laws_FnWindows.l1])
        | succ k2 =>
         have H := HA.out
         clear HA
         simp only [laws_FnWindows.l1] at H
         by_cases c29 : x12_2 < t273
         ·
          rw [if_pos c29] at H
          have c29b0 : decide (x12_2 < t273) = true := decide_eq_true c29
          clear c29
          replace H := Option.bind_eq_some_iff.mp H
          obtain ⟨⟨t294, t295⟩, A300, H⟩ := H
          replace H : ((impl_Owner.f k2 t273 t274 t275 (wrap64 (x12_2 + t273))).bind fun bt296 => (if t295 = true then (if t294 < (-1) then (laws_FnWindows.j3 k2 l0 t278 x5_1 x6_1 x11_2 x12_2 t294 true t273 t274 t275) else (if t294 ≥ t274 then (laws_FnWindows.j3 k2 l0 t278 x5_1 x6_1 x11_2 x12_2 t294 true t273 t274 t275) else (laws_FnWindows.j3 k2 l0 t278 x5_1 x6_1 x11_2 x12_2 t294 (bt296.1 != t294) t273 t274 t275))) else (laws_FnWindows.j3 k2 l0 t278 x5_1 x6_1 x11_2 x12_2 t294 true t273 t274 t275))) = some r := H
          have A30 := Aside0.mk A300
          clear A300
          replace H := Option.bind_eq_some_iff.mp H
          obtain ⟨⟨t296, t297⟩, A310, H⟩ := H
          replace H : (if t295 = true then (if t294 < (-1) then (laws_FnWindows.j3 k2 l0 t278 x5_1 x6_1 x11_2 x12_2 t294 true t273 t274 t275) else (if t294 ≥ t274 then (laws_FnWindows.j3 k2 l0 t278 x5_1 x6_1 x11_2 x12_2 t294 true t273 t274 t275) else (laws_FnWindows.j3 k2 l0 t278 x5_1 x6_1 x11_2 x12_2 t294 (t296 != t294) t273 t274 t275))) else (laws_FnWindows.j3 k2 l0 t278 x5_1 x6_1 x11_2 x12_2 t294 true t273 t274 t275)) = some r := H
          have A31 := Aside0.mk A310
          clear A310
          have HC32 := Aside0.mk H
          clear H
          have hcz33_0 : wr.cell? ⟨gb281, 0, none⟩ = some (.int .i64 t273) := (blk_cell BK281.out 0).trans rfl
          have hcz33_1 : wr.cell? ⟨gb281, 1, none⟩ = some (.int .i64 t274) := (blk_cell BK281.out 1).trans rfl
          have hcz33_2 : wr.cell? ⟨gb281, 2, none⟩ = some (.slice Ao8 t275.length co8) := (blk_cell BK281.out 2).trans rfl
          have hfz33_0 := blk_frozen BK281.out 0
          have hfz33_1 := blk_frozen BK281.out 1
          have hfz33_2 := blk_frozen BK281.out 2
          go_upto_region 20 with (first | ((with_reducible refine gate_callee (f := 42) rfl ?_); refine goesL_ (some 86) rfl rfl Try.func42 (by kernel_rfl) rfl #[.agg #[.int .i64 t273, .int .i64 t274, .slice Ao8 t275.length co8], .int .i64 x12_2] rfl (by (try simp only [List.map_toArray, List.map_cons, List.map_nil]); first | done | rfl | (simp only [List.length_drop, List.length_take]; rfl)) ?_; (with_reducible refine (impl_Owner.calls k2 t273 t274 _ _ t275 x12_2 t294 t295 _ ?side1 ?side2 A30.out).mono ?_); (case side1 => repeat (first | exact (Kd.R_reads' HO_282002.out).2.2 | (with_reducible refine Kd.C_alloc ?_ _) | (with_reducible refine Kd.C_drewN ?_ _) | (with_reducible refine Kd.C_drew ?_))); (case side2 => exact (Kd.R_reads' HO_282002.out).2.1); rintro e w34 ⟨rfl, hb⟩; refine ⟨_, rfl, ?_⟩; have n0_ := Aside0.mk (Kd.R_below (by (with_reducible repeat (first | apply Kd.R_alloc | apply Kd.R_drewN | apply Kd.R_drew)); exact HO_4.out) hb); have n1_ := Aside0.mk (Kd.R_below (by (with_reducible repeat (first | apply Kd.R_alloc | apply Kd.R_drewN | apply Kd.R_drew)); exact HO_6.out) hb); have n2_ := Aside0.mk (Kd.R_below (by (with_reducible repeat (first | apply Kd.R_alloc | apply Kd.R_drewN | apply Kd.R_drew)); exact HO_11.out) hb); have n3_ := Aside0.mk (Kd.R_below (by (with_reducible repeat (first | apply Kd.R_alloc | apply Kd.R_drewN | apply Kd.R_drew)); exact HO_282002.out) hb); have n4_ := Aside0.mk (blk_below (g := gb281) (o := .cells #[.int .i64 t273, .int .i64 t274, .slice Ao8 t275.length co8] 30 (0, 0)) (by (with_reducible repeat (first | refine blk_drewN ?_ _ | refine blk_drew ?_ | refine blk_alloc ?_ _)); exact BK281.out) hb); have n5_ := Aside0.mk (below_step (by repeat (first | (with_reducible first | exact HB.out | apply below_alloc | apply pw_below_drewN | apply below_drew1 | refine below_set ?_ GE281.out) | exact HB.out)) hb); clear HO_4; clear HO_6; clear HO_11; clear HO_282002; clear BK281; clear HB; have HO_4 := n0_; have HO_6 := n1_; have HO_11 := n2_; have HO_282002 := n3_; have BK281 := n4_; have HB := n5_; clear n0_ n1_ n2_ n3_ n4_ n5_; (try clear hb); (try clear hb2); (try clear hk); (try clear hi); have hcz35_0 : w34.cell? ⟨gb281, 0, none⟩ = some (.int .i64 t273) := (blk_cell BK281.out 0).trans rfl; have hcz35_1 : w34.cell? ⟨gb281, 1, none⟩ = some (.int .i64 t274) := (blk_cell BK281.out 1).trans rfl; have hcz35_2 : w34.cell? ⟨gb281, 2, none⟩ = some (.slice Ao8 t275.length co8) := (blk_cell BK281.out 2).trans rfl; have hfz35_0 := blk_frozen BK281.out 0; have hfz35_1 := blk_frozen BK281.out 1; have hfz35_2 := blk_frozen BK281.out 2) | ((with_reducible refine gate_callee (f := 42) rfl ?_); refine goesL_ (some 95) rfl rfl Try.func42 (by kernel_rfl) rfl #[.agg #[.int .i64 t273, .int .i64 t274, .slice Ao8 t275.length co8], .int .i64 (wrap64 (x12_2 + t273))] rfl (by (try simp only [List.map_toArray, List.map_cons, List.map_nil]); first | done | rfl | (simp only [List.length_drop, List.length_take]; rfl)) ?_; (with_reducible refine (impl_Owner.calls k2 t273 t274 _ _ t275 (wrap64 (x12_2 + t273)) t296 t297 _ ?side1 ?side2 A31.out).mono ?_); (case side1 => repeat (first | exact (Kd.R_reads' HO_282002.out).2.2 | (with_reducible refine Kd.C_alloc ?_ _) | (with_reducible refine Kd.C_drewN ?_ _) | (with_reducible refine Kd.C_drew ?_))); (case side2 => exact (Kd.R_reads' HO_282002.out).2.1); rintro e w36 ⟨rfl, hb⟩; refine ⟨_, rfl, ?_⟩; have n0_ := Aside0.mk (Kd.R_below (by (with_reducible repeat (first | apply Kd.R_alloc | apply Kd.R_drewN | apply Kd.R_drew)); exact HO_4.out) hb); have n1_ := Aside0.mk (Kd.R_below (by (with_reducible repeat (first | apply Kd.R_alloc | apply Kd.R_drewN | apply Kd.R_drew)); exact HO_6.out) hb); have n2_ := Aside0.mk (Kd.R_below (by (with_reducible repeat (first | apply Kd.R_alloc | apply Kd.R_drewN | apply Kd.R_drew)); exact HO_11.out) hb); have n3_ := Aside0.mk (Kd.R_below (by (with_reducible repeat (first | apply Kd.R_alloc | apply Kd.R_drewN | apply Kd.R_drew)); exact HO_282002.out) hb); have n4_ := Aside0.mk (blk_below (g := gb281) (o := .cells #[.int .i64 t273, .int .i64 t274, .slice Ao8 t275.length co8] 30 (0, 0)) (by (with_reducible repeat (first | refine blk_drewN ?_ _ | refine blk_drew ?_ | refine blk_alloc ?_ _)); exact BK281.out) hb); have n5_ := Aside0.mk (below_step (by repeat (first | (with_reducible first | exact HB.out | apply below_alloc | apply pw_below_drewN | apply below_drew1 | refine below_set ?_ GE281.out) | exact HB.out)) hb); clear HO_4; clear HO_6; clear HO_11; clear HO_282002; clear BK281; clear HB; have HO_4 := n0_; have HO_6 := n1_; have HO_11 := n2_; have HO_282002 := n3_; have BK281 := n4_; have HB := n5_; clear n0_ n1_ n2_ n3_ n4_ n5_; (try clear hb); (try clear hb2); (try clear hk); (try clear hi)))
          (try simp only [Act.put, List.setIfInBounds_toArray, List.set_cons_zero, List.set_cons_succ])
          go_cut [114] (fun v114 wc => ∃ (kq : Nat) (x114_31 : Bool), v114 = .bool x114_31 ∧ Aside0 (laws_FnWindows.j3 kq l0 t278 x5_1 x6_1 x11_2 x12_2 t294 x114_31 t273 t274 t275 = some r) ∧ Aside0 (kq ≤ k2) ∧ Aside0 (Kd.R k180 180 wc w.heap.size (fun _ => True) v279 t278) ∧ Aside0 (Kd.R (Kd.int .i64) 3 wc w.heap.size (fun k_ => some k_ ≠ (v292 : Value).ownBlock) u6 x6_1) ∧ Aside0 (Kd.R (Kd.int .i64) 3 wc w.heap.size (fun k_ => some k_ ≠ (u6 : Value).ownBlock) v292 x11_2) ∧ Aside0 (Kd.R k143 143 wc w.heap.size (fun _ => True) (.slice Ao8 t275.length co8) t275) ∧ Aside0 (wc.heap[gb281]? = some (.cells #[.int .i64 t273, .int .i64 t274, (.slice Ao8 t275.length co8)] 30 (0, 0))) ∧ Aside0 (Below w.heap.size w wc))
          case first =>
           have H := HC32.out
           clear HC32
           by_cases c37 : t295 = true
           ·
            subst c37
            have H1 : (if t294 < (-1) then (laws_FnWindows.j3 k2 l0 t278 x5_1 x6_1 x11_2 x12_2 t294 true t273 t274 t275) else (if t294 ≥ t274 then (laws_FnWindows.j3 k2 l0 t278 x5_1 x6_1 x11_2 x12_2 t294 true t273 t274 t275) else (laws_FnWindows.j3 k2 l0 t278 x5_1 x6_1 x11_2 x12_2 t294 (t296 != t294) t273 t274 t275))) = some r := by rw [if_pos rfl] at H; exact H
            clear H
            have H := H1
            clear H1
            by_cases c38 : t294 < (-1)
            ·
             rw [if_pos c38] at H
             have c38b0 : decide (t294 < (-1)) = true := decide_eq_true c38
             clear c38
             (first | rw [c38b0] | (simp only [i64_w, i32_w]; rw [c38b0]) | skip)
             have H' := Aside0.mk H
             clear H
             go_wp2
             go_meet
             case rel => exact ⟨_, (true), (by first | rfl | (simp; done) | (simp [*]; done)), H', ⟨by have := HK1.out; have := HK2.out; first | omega | exact Nat.le_refl _⟩, ⟨by (with_reducible repeat (first | apply Kd.R_alloc | apply Kd.R_drewN | apply Kd.R_drew)); exact HO_4.out⟩, ⟨by (with_reducible repeat (first | apply Kd.R_alloc | apply Kd.R_drewN | apply Kd.R_drew)); exact HO_6.out⟩, ⟨by (with_reducible repeat (first | apply Kd.R_alloc | apply Kd.R_drewN | apply Kd.R_drew)); exact HO_11.out⟩, ⟨by (with_reducible repeat (first | apply Kd.R_alloc | apply Kd.R_drewN | apply Kd.R_drew)); exact HO_282002.out⟩, ⟨by (with_reducible repeat (first | refine blk_drewN ?_ _ | refine blk_drew ?_ | refine blk_alloc ?_ _)); exact BK281.out⟩, ⟨by repeat (first | (with_reducible first | exact HB.out | apply below_alloc | apply pw_below_drewN | apply below_drew1 | refine below_set ?_ GE281.out) | exact HB.out)⟩⟩
            ·
             rw [if_neg c38] at H
             have c38b0 : decide (t294 < (-1)) = false := decide_eq_false c38
             clear c38
             (first | rw [c38b0] | (simp only [i64_w, i32_w]; rw [c38b0]) | skip)
             by_cases c39 : t294 ≥ t274
             ·
              rw [if_pos c39] at H
              have c39b0 : decide (t274 ≤ t294) = true := decide_eq_true c39
              clear c39
              have H' := Aside0.mk H
              clear H
              have hcz40_0 : w36.cell? ⟨gb281, 0, none⟩ = some (.int .i64 t273) := (blk_cell BK281.out 0).trans rfl
              have hcz40_1 : w36.cell? ⟨gb281, 1, none⟩ = some (.int .i64 t274) := (blk_cell BK281.out 1).trans rfl
              have hcz40_2 : w36.cell? ⟨gb281, 2, none⟩ = some (.slice Ao8 t275.length co8) := (blk_cell BK281.out 2).trans rfl
              have hfz40_0 := blk_frozen BK281.out 0
              have hfz40_1 := blk_frozen BK281.out 1
              have hfz40_2 := blk_frozen BK281.out 2
              go_wp2
              go_meet
              case rel => exact ⟨_, (true), (by first | rfl | (simp; done) | (simp [*]; done)), H', ⟨by have := HK1.out; have := HK2.out; first | omega | exact Nat.le_refl _⟩, ⟨by (with_reducible repeat (first | apply Kd.R_alloc | apply Kd.R_drewN | apply Kd.R_drew)); exact HO_4.out⟩, ⟨by (with_reducible repeat (first | apply Kd.R_alloc | apply Kd.R_drewN | apply Kd.R_drew)); exact HO_6.out⟩, ⟨by (with_reducible repeat (first | apply Kd.R_alloc | apply Kd.R_drewN | apply Kd.R_drew)); exact HO_11.out⟩, ⟨by (with_reducible repeat (first | apply Kd.R_alloc | apply Kd.R_drewN | apply Kd.R_drew)); exact HO_282002.out⟩, ⟨by (with_reducible repeat (first | refine blk_drewN ?_ _ | refine blk_drew ?_ | refine blk_alloc ?_ _)); exact BK281.out⟩, ⟨by repeat (first | (with_reducible first | exact HB.out | apply below_alloc | apply pw_below_drewN | apply below_drew1 | refine below_set ?_ GE281.out) | exact HB.out)⟩⟩
             ·
              rw [if_neg c39] at H
              have c39b0 : decide (t274 ≤ t294) = false := decide_eq_false c39
              clear c39
              have H' := Aside0.mk H
              clear H
              have hcz41_0 : w36.cell? ⟨gb281, 0, none⟩ = some (.int .i64 t273) := (blk_cell BK281.out 0).trans rfl
              have hcz41_1 : w36.cell? ⟨gb281, 1, none⟩ = some (.int .i64 t274) := (blk_cell BK281.out 1).trans rfl
              have hcz41_2 : w36.cell? ⟨gb281, 2, none⟩ = some (.slice Ao8 t275.length co8) := (blk_cell BK281.out 2).trans rfl
              have hfz41_0 := blk_frozen BK281.out 0
              have hfz41_1 := blk_frozen BK281.out 1
              have hfz41_2 := blk_frozen BK281.out 2
              go_wp2
              go_meet
              case rel => exact ⟨_, ((t296 != t294)), (by first | rfl | (simp; done) | (simp [*]; done)), H', ⟨by have := HK1.out; have := HK2.out; first | omega | exact Nat.le_refl _⟩, ⟨by (with_reducible repeat (first | apply Kd.R_alloc | apply Kd.R_drewN | apply Kd.R_drew)); exact HO_4.out⟩, ⟨by (with_reducible repeat (first | apply Kd.R_alloc | apply Kd.R_drewN | apply Kd.R_drew)); exact HO_6.out⟩, ⟨by (with_reducible repeat (first | apply Kd.R_alloc | apply Kd.R_drewN | apply Kd.R_drew)); exact HO_11.out⟩, ⟨by (with_reducible repeat (first | apply Kd.R_alloc | apply Kd.R_drewN | apply Kd.R_drew)); exact HO_282002.out⟩, ⟨by (with_reducible repeat (first | refine blk_drewN ?_ _ | refine blk_drew ?_ | refine blk_alloc ?_ _)); exact BK281.out⟩, ⟨by repeat (first | (with_reducible first | exact HB.out | apply below_alloc | apply pw_below_drewN | apply below_drew1 | refine below_set ?_ GE281.out) | exact HB.out)⟩⟩
           ·
            replace c37 := Bool.eq_false_iff.mpr c37
            subst c37
            have H1 : (laws_FnWindows.j3 k2 l0 t278 x5_1 x6_1 x11_2 x12_2 t294 true t273 t274 t275) = some r := by rw [if_neg (show ¬ (false = true) by decide)] at H; exact H
            clear H
            have H := H1
            clear H1
            have H' := Aside0.mk H
            clear H
            go_wp2
            go_meet
            case rel => exact ⟨_, (true), (by first | rfl | (simp; done) | (simp [*]; done)), H', ⟨by have := HK1.out; have := HK2.out; first | omega | exact Nat.le_refl _⟩, ⟨by (with_reducible repeat (first | apply Kd.R_alloc | apply Kd.R_drewN | apply Kd.R_drew)); exact HO_4.out⟩, ⟨by (with_reducible repeat (first | apply Kd.R_alloc | apply Kd.R_drewN | apply Kd.R_drew)); exact HO_6.out⟩, ⟨by (with_reducible repeat (first | apply Kd.R_alloc | apply Kd.R_drewN | apply Kd.R_drew)); exact HO_11.out⟩, ⟨by (with_reducible repeat (first | apply Kd.R_alloc | apply Kd.R_drewN | apply Kd.R_drew)); exact HO_282002.out⟩, ⟨by (with_reducible repeat (first | refine blk_drewN ?_ _ | refine blk_drew ?_ | refine blk_alloc ?_ _)); exact BK281.out⟩, ⟨by repeat (first | (with_reducible first | exact HB.out | apply below_alloc | apply pw_below_drewN | apply below_drew1 | refine below_set ?_ GE281.out) | exact HB.out)⟩⟩
          case rest =>
           clear HC32
           try clear c1
           try clear c2
           try clear p2
           try clear c3
           try clear c4
           try clear p6
           try clear c7
           try clear c11
           try clear c11b0
           try clear c16
           try clear c17
           try clear c17b0
           try clear c18
           try clear c18b0
           try clear c21
           try clear c22
           try clear c24
           try clear c24b0
           try clear c24b1
           try clear c25
           try clear c25b0
           try clear c25b1
           try clear c29
           try clear c29b0
           try clear c37
           try clear c38
           try clear c38b0
           try clear c39
           try clear c39b0
           try clear c41
           try clear hcz14_0
           try clear hcz14_1
           try clear hcz14_2
           try clear hcz19_0
           try clear hcz19_1
           try clear hcz19_2
           try clear hcz20_0
           try clear hcz20_1
           try clear hcz20_2
           try clear hcz26_0
           try clear hcz26_1
           try clear hcz26_2
           try clear hcz33_0
           try clear hcz33_1
           try clear hcz33_2
           try clear hcz35_0
           try clear hcz35_1
           try clear hcz35_2
           try clear hcz40_0
           try clear hcz40_1
           try clear hcz40_2
           try clear hcz41_0
           try clear hcz41_1
           try clear hcz41_2
           try clear hcz7_0
           try clear hcz7_1
           try clear hcz7_2
           try clear hfz14_0
           try clear hfz14_1
           try clear hfz14_2
           try clear hfz19_0
           try clear hfz19_1
           try clear hfz19_2
           try clear hfz20_0
           try clear hfz20_1
           try clear hfz20_2
           try clear hfz26_0
           try clear hfz26_1
           try clear hfz26_2
           try clear hfz33_0
           try clear hfz33_1
           try clear hfz33_2
           try clear hfz35_0
           try clear hfz35_1
           try clear hfz35_2
           try clear hfz40_0
           try clear hfz40_1
           try clear hfz40_2
           try clear hfz41_0
           try clear hfz41_1
           try clear hfz41_2
           try clear hfz7_0
           try clear hfz7_1
           try clear hfz7_2
           try clear p2
           try clear p6
           obtain ⟨kq, x114_31, rfl, HA, HJ31, HO_4, HO_6, HO_11, HO_282002, BK281, HB⟩ := hcut
           cases kq with
           | zero => exact absurd HA.out (by simp [laws_FnWindows.j3])
           | succ kj31 =>
            have H := HA.out
            clear HA
            simp only [laws_FnWindows.j3] at H
            by_cases c42 : x114_31 = true
            ·
             subst c42
             have H1 : (some false) = some r := by rw [if_pos rfl] at H; exact H
             clear H
             have H := H1
             clear H1
             obtain rfl := Option.some.inj H
             go_wp2
             go_ret
             exact ⟨by first | rfl | (simp [errW_none, errW_some] <;> rfl) | (simp [*, errW_none, errW_some] <;> rfl), by repeat (first | (with_reducible first | exact HB.out | apply below_alloc | apply pw_below_drewN | apply below_drew1 | refine below_set ?_ GE281.out) | exact HB.out)⟩
            ·
             replace c42 := Bool.eq_false_iff.mpr c42
             subst c42
             have H1 : (if t294 ≥ 0 then (if 0 ≤ t294 then (if t294 < (x11_2.length : Int) then (laws_FnWindows.l1 kj31 l0 t278 x5_1 x6_1 (x11_2.set (t294 : Int).toNat (wrap64 ((rd x11_2 t294) + 1))) (wrap64 (x12_2 + 1)) t273 t274 t275) else (none)) else (none)) else (laws_FnWindows.l1 kj31 l0 t278 x5_1 x6_1 x11_2 (wrap64 (x12_2 + 1)) t273 t274 t275)) = some r := by rw [if_neg (show ¬ (false = true) by decide)] at H; exact H
             clear H
             have H := H1
             clear H1
             by_cases c43 : t294 ≥ 0
             ·
              rw [if_pos c43] at H
              have c43b0 : decide (0 ≤ t294) = true := decide_eq_true c43
              clear c43
              by_cases c44 : 0 ≤ t294
              ·
               rw [if_pos c44] at H
               have c44b0 : decide (0 ≤ t294) = true := decide_eq_true c44
               clear c44
               by_cases c45 : t294 < (x11_2.length : Int)
               ·
                rw [if_pos c45] at H
                have c45b0 : decide (t294 < (x11_2.length : Int)) = true := decide_eq_true c45
                clear c45
                obtain ⟨y299, hy299⟩ : ∃ y_ : List Int, y_ = (x11_2.set (t294 : Int).toNat (wrap64 ((rd x11_2 t294) + 1))) := ⟨_, rfl⟩
                replace H : (laws_FnWindows.l1 kj31 l0 t278 x5_1 x6_1 y299 (wrap64 (x12_2 + 1)) t273 t274 t275) = some r := by first | (rw [hy299]; with_reducible exact H) | (have H2_ := (Option.bind_some _ _).symm.trans H; rw [hy299]; with_reducible exact H2_) | (have H2_ := (Option.bind_some _ _).symm.trans H; with_reducible exact H2_) | with_reducible exact H | (rw [hy299]; exact H) | exact H
                have Ny299 := Aside0.mk hy299
                clear hy299
                have H' := Aside0.mk H
                clear H
                obtain ⟨Ao47, co47, eo47⟩ := Kd.R_slice HO_11.out
                subst eo47
                have p298 : 0 ≤ (t294 : Int) := of_decide_eq_true (by first | (with_reducible assumption) | assumption)
                have q298 : t294 < (x11_2.length : Int) := of_decide_eq_true (by first | (with_reducible assumption) | assumption)
                obtain ⟨ad298, e298, hx298_0⟩ := Kd.at_int (Kd.R_reads' HO_11.out).2.2 t294 p298 q298
                (try (have KB_ := BK281; clear BK281; (repeat clear BK281); have BK281 := KB_; clear KB_))
                cases e298
                replace p298 := eq_true p298
                replace q298 := eq_true q298
                have p46 : 0 ≤ (t294 : Int) := of_decide_eq_true (by first | (with_reducible assumption) | assumption)
                have q46 : (t294 : Int) < ((x11_2.length : Int) : Int) := of_decide_eq_true (by first | (with_reducible assumption) | assumption)
                obtain ⟨go46, co46, eo46, gb46, gl46, cl46, HG46⟩ := Kd.R_form HO_11.out (by omega)
                (first | cases eo46 | (injection eo46 with ea_ en_ ec_; (first | subst ea_ | (injection ea_ with ea_; subst ea_)); subst ec_; clear en_))
                have GB46 := Aside0.mk gb46
                have GG46 := Aside0.mk HG46
                clear gb46 gl46 HG46
                (first | simp only [add_plain] at hx298_0 | skip)
                obtain ⟨hx46_0, hf46_0⟩ := Kd.R_celln 0 HO_11.out (t294 : Int) p46 q46
                replace p46 := eq_true p46
                replace q46 := eq_true q46
                have HP48 := Kd.R_putg HO_11.out (t294 : Int) (wrap64 ((rd x11_2 t294) + 1))
                go_wp2_with (first | ((with_reducible refine gate_store (t := 3) (p := 122) rfl ?_); refine store_event (t := 3) (p := 122) (v := ?vo_w49) (w1 := (wc.setCell ⟨go46, (t294 : Int).toNat, none⟩ (.int .i64 (wrap64 ((rd x11_2 t294) + 1))))) ?hg ?ho ?hn ?hr ?_; (case ho => rfl); (case hg => rfl); (case hn => rfl); (case hr => first | (go_simp; done) | (go_simp; rfl)); intro w49 hw; have hg : wc.grownBy w49 (some go46) := (by rw [hw]; exact HP48.2); have hp_ : Kd.R (Kd.int .i64) 3 w49 w.heap.size (fun k_ => some k_ ≠ (u6 : Value).ownBlock) (.slice (some ⟨go46, 0, none⟩) x11_2.length co47) y299 := (by rw [hw, Ny299.out]; exact HP48.1); clear HP48; have n0_ := Aside0.mk (Kd.R_over' (v := (.slice (some ⟨go46, 0, none⟩) x11_2.length co47)) (by (with_reducible repeat (first | apply Kd.R_alloc | apply Kd.R_drewN | apply Kd.R_drew)); exact HO_4.out) (Kd.R_typed HO_11.out) (by decide) hg); have n1_ := Aside0.mk (Kd.R_after (v := (.slice (some ⟨go46, 0, none⟩) x11_2.length co47)) (v1 := (.slice (some ⟨go46, 0, none⟩) x11_2.length co47)) (ok := (fun _ => True)) (by (with_reducible repeat (first | apply Kd.R_alloc | apply Kd.R_drewN | apply Kd.R_drew)); exact Kd.R_mono HO_6.out (fun _ hk => ⟨trivial, hk⟩)) hg (.inl rfl)); have n2_ := Aside0.mk (hp_); have n3_ := Aside0.mk (Kd.R_over' (v := (.slice (some ⟨go46, 0, none⟩) x11_2.length co47)) (by (with_reducible repeat (first | apply Kd.R_alloc | apply Kd.R_drewN | apply Kd.R_drew)); exact HO_282002.out) (Kd.R_typed HO_11.out) (by decide) hg); have n4_ := Aside0.mk (blk_grown (g := gb281) (o := .cells #[.int .i64 t273, .int .i64 t274, .slice Ao8 t275.length co8] 30 (0, 0)) (by (with_reducible repeat (first | refine blk_drewN ?_ _ | refine blk_drew ?_ | refine blk_alloc ?_ _)); exact BK281.out) hg (Kd.R_ne HO_11.out BK281.out (by decide))); have n5_ := Aside0.mk ((by rw [hw]; exact below_set (HB.out) GB46.out : Below w.heap.size w w49)); clear HO_4; clear HO_6; clear HO_11; clear HO_282002; clear BK281; clear HB; have HO_4 := n0_; have HO_6 := n1_; have HO_11 := n2_; have HO_282002 := n3_; have BK281 := n4_; have HB := n5_; clear n0_ n1_ n2_ n3_ n4_ n5_; clear hg hw hp_))
                go_roundg kj31
                case measure => have := HK1.out; have := HK2.out; have := HJ31.out; omega
                case rel => exact ⟨(y299), (wrap64 (x12_2 + 1)), (by first | rfl | (simp; done) | (simp [*]; done)), H', ⟨by have := HK1.out; have := HK2.out; have := HJ31.out; omega⟩, ⟨by (with_reducible repeat (first | apply Kd.R_alloc | apply Kd.R_drewN | apply Kd.R_drew)); exact HO_4.out⟩, ⟨by (with_reducible repeat (first | apply Kd.R_alloc | apply Kd.R_drewN | apply Kd.R_drew)); exact Kd.R_mono HO_6.out (fun _ hk => hk.2)⟩, ⟨by (with_reducible repeat (first | apply Kd.R_alloc | apply Kd.R_drewN | apply Kd.R_drew)); exact HO_11.out⟩, ⟨by (with_reducible repeat (first | apply Kd.R_alloc | apply Kd.R_drewN | apply Kd.R_drew)); exact HO_282002.out⟩, ⟨by (with_reducible repeat (first | refine blk_drewN ?_ _ | refine blk_drew ?_ | refine blk_alloc ?_ _)); exact BK281.out⟩, ⟨by repeat (first | (with_reducible first | exact HB.out | apply below_alloc | apply pw_below_drewN | apply below_drew1 | refine below_set ?_ GE281.out) | exact HB.out)⟩⟩
               ·
                rw [if_neg c45] at H
                exact absurd H (by simp)
              ·
               rw [if_neg c44] at H
               exact absurd H (by simp)
             ·
              rw [if_neg c43] at H
              have c43b0 : decide (0 ≤ t294) = false := decide_eq_false c43
              clear c43
              have H' := Aside0.mk H
              clear H
              go_wp2
              go_roundg kj31
              case measure => have := HK1.out; have := HK2.out; have := HJ31.out; omega
              case rel => exact ⟨(x11_2), (wrap64 (x12_2 + 1)), (by first | rfl | (simp; done) | (simp [*]; done)), H', ⟨by have := HK1.out; have := HK2.out; have := HJ31.out; omega⟩, ⟨by (with_reducible repeat (first | apply Kd.R_alloc | apply Kd.R_drewN | apply Kd.R_drew)); exact HO_4.out⟩, ⟨by (with_reducible repeat (first | apply Kd.R_alloc | apply Kd.R_drewN | apply Kd.R_drew)); exact HO_6.out⟩, ⟨by (with_reducible repeat (first | apply Kd.R_alloc | apply Kd.R_drewN | apply Kd.R_drew)); exact HO_11.out⟩, ⟨by (with_reducible repeat (first | apply Kd.R_alloc | apply Kd.R_drewN | apply Kd.R_drew)); exact HO_282002.out⟩, ⟨by (with_reducible repeat (first | refine blk_drewN ?_ _ | refine blk_drew ?_ | refine blk_alloc ?_ _)); exact BK281.out⟩, ⟨by repeat (first | (with_reducible first | exact HB.out | apply below_alloc | apply pw_below_drewN | apply below_drew1 | refine below_set ?_ GE281.out) | exact HB.out)⟩⟩
         ·
          rw [if_neg c29] at H
          have c29b0 : decide (x12_2 < t273) = false := decide_eq_false c29
          clear c29
          have HC50 := Aside0.mk H
          clear H
          have hcz51_0 : wr.cell? ⟨gb281, 0, none⟩ = some (.int .i64 t273) := (blk_cell BK281.out 0).trans rfl
          have hcz51_1 : wr.cell? ⟨gb281, 1, none⟩ = some (.int .i64 t274) := (blk_cell BK281.out 1).trans rfl
          have hcz51_2 : wr.cell? ⟨gb281, 2, none⟩ = some (.slice Ao8 t275.length co8) := (blk_cell BK281.out 2).trans rfl
          have hfz51_0 := blk_frozen BK281.out 0
          have hfz51_1 := blk_frozen BK281.out 1
          have hfz51_2 := blk_frozen BK281.out 2
          go_upto_region 24 with (fail)
          go_cut [137] (fun v137 wc => ∃ (kq : Nat) (x137_49 : Bool), v137 = .bool x137_49 ∧ Aside0 (laws_FnWindows.j4 kq l0 t278 x5_1 x137_49 t273 t274 t275 = some r) ∧ Aside0 (kq ≤ k2) ∧ Aside0 (Kd.R k180 180 wc w.heap.size (fun _ => True) v279 t278) ∧ Aside0 (Kd.R k143 143 wc w.heap.size (fun _ => True) (.slice Ao8 t275.length co8) t275) ∧ Aside0 (wc.heap[gb281]? = some (.cells #[.int .i64 t273, .int .i64 t274, (.slice Ao8 t275.length co8)] 30 (0, 0))) ∧ Aside0 (Below w.heap.size w wc))
          case first =>
           have H := HC50.out
           clear HC50
           replace H := Option.bind_eq_some_iff.mp H
           obtain ⟨t300, A520, H⟩ := H
           replace H : (if t300 = true then (if x5_1 > t273 then (laws_FnWindows.j4 k2 l0 t278 x5_1 true t273 t274 t275) else ((impl_PlanOk.f k2 t273 t274 t275).bind fun t301 => (laws_FnWindows.j4 k2 l0 t278 x5_1 (!t301) t273 t274 t275))) else (laws_FnWindows.j4 k2 l0 t278 x5_1 true t273 t274 t275)) = some r := H
           have A52 := Aside0.mk A520
           clear A520
           by_cases c53 : t300 = true
           ·
            subst c53
            have H1 : (if x5_1 > t273 then (laws_FnWindows.j4 k2 l0 t278 x5_1 true t273 t274 t275) else ((impl_PlanOk.f k2 t273 t274 t275).bind fun t301 => (laws_FnWindows.j4 k2 l0 t278 x5_1 (!t301) t273 t274 t275))) = some r := by rw [if_pos rfl] at H; exact H
            clear H
            have H := H1
            clear H1
            by_cases c54 : x5_1 > t273
            ·
             rw [if_pos c54] at H
             have c54b0 : decide (t273 < x5_1) = true := decide_eq_true c54
             clear c54
             (first | rw [c54b0] | (simp only [i64_w, i32_w]; rw [c54b0]) | skip)
             have H' := Aside0.mk H
             clear H
             obtain ⟨Ao55, co55, eo55⟩ := Kd.R_slice HO_11.out
             subst eo55
             obtain ⟨Ao56, co56, eo56⟩ := Kd.R_slice HO_6.out
             subst eo56
             go_wp2_with (first | ((with_reducible refine gate_callee (f := 43) rfl ?_); refine goesL_ (some 125) rfl rfl Try.func43 (by kernel_rfl) rfl #[.slice Ao55 x11_2.length co55, .slice Ao56 x6_1.length co56] rfl (by (try simp only [List.map_toArray, List.map_cons, List.map_nil]); first | done | rfl | (simp only [List.length_drop, List.length_take]; rfl)) ?_; (with_reducible refine (laws_sameInts.calls k2 _ _ x11_2 _ _ x6_1 true _ ?side1 ?side2 ?side3 ?side4 A52.out).mono ?_); (case side1 => repeat (first | exact (Kd.R_reads' HO_11.out).2.2 | (with_reducible refine Kd.C_alloc ?_ _) | (with_reducible refine Kd.C_drewN ?_ _) | (with_reducible refine Kd.C_drew ?_))); (case side2 => exact (Kd.R_reads' HO_11.out).2.1); (case side3 => repeat (first | exact (Kd.R_reads' HO_6.out).2.2 | (with_reducible refine Kd.C_alloc ?_ _) | (with_reducible refine Kd.C_drewN ?_ _) | (with_reducible refine Kd.C_drew ?_))); (case side4 => exact (Kd.R_reads' HO_6.out).2.1); rintro e w' ⟨rfl, ⟨nd, rfl⟩⟩; refine ⟨_, rfl, ?_⟩; have hcz57_0 : wr.cell? ⟨gb281, 0, none⟩ = some (.int .i64 t273) := (blk_cell BK281.out 0).trans rfl; have hcz57_1 : wr.cell? ⟨gb281, 1, none⟩ = some (.int .i64 t274) := (blk_cell BK281.out 1).trans rfl; have hcz57_2 : wr.cell? ⟨gb281, 2, none⟩ = some (.slice Ao8 t275.length co8) := (blk_cell BK281.out 2).trans rfl; have hfz57_0 := blk_frozen BK281.out 0; have hfz57_1 := blk_frozen BK281.out 1; have hfz57_2 := blk_frozen BK281.out 2))
             go_meet
             case rel => exact ⟨_, (true), (by first | rfl | (simp; done) | (simp [*]; done)), H', ⟨by have := HK1.out; have := HK2.out; first | omega | exact Nat.le_refl _⟩, ⟨by (with_reducible repeat (first | apply Kd.R_alloc | apply Kd.R_drewN | apply Kd.R_drew)); exact HO_4.out⟩, ⟨by (with_reducible repeat (first | apply Kd.R_alloc | apply Kd.R_drewN | apply Kd.R_drew)); exact HO_282002.out⟩, ⟨by (with_reducible repeat (first | refine blk_drewN ?_ _ | refine blk_drew ?_ | refine blk_alloc ?_ _)); exact BK281.out⟩, ⟨by repeat (first | (with_reducible first | exact HB.out | apply below_alloc | apply pw_below_drewN | apply below_drew1 | refine below_set ?_ GE281.out) | exact HB.out)⟩⟩
            ·
             rw [if_neg c54] at H
             have c54b0 : decide (t273 < x5_1) = false := decide_eq_false c54
             clear c54
             (first | rw [c54b0] | (simp only [i64_w, i32_w]; rw [c54b0]) | skip)
             replace H := Option.bind_eq_some_iff.mp H
             obtain ⟨t301, A580, H⟩ := H
             replace H : (laws_FnWindows.j4 k2 l0 t278 x5_1 (!t301) t273 t274 t275) = some r := H
             have A58 := Aside0.mk A580
             clear A580
             have H' := Aside0.mk H
             clear H
             obtain ⟨Ao59, co59, eo59⟩ := Kd.R_slice HO_11.out
             subst eo59
             obtain ⟨Ao60, co60, eo60⟩ := Kd.R_slice HO_6.out
             subst eo60
             go_wp2_with (first | ((with_reducible refine gate_callee (f := 43) rfl ?_); refine goesL_ (some 125) rfl rfl Try.func43 (by kernel_rfl) rfl #[.slice Ao59 x11_2.length co59, .slice Ao60 x6_1.length co60] rfl (by (try simp only [List.map_toArray, List.map_cons, List.map_nil]); first | done | rfl | (simp only [List.length_drop, List.length_take]; rfl)) ?_; (with_reducible refine (laws_sameInts.calls k2 _ _ x11_2 _ _ x6_1 true _ ?side1 ?side2 ?side3 ?side4 A52.out).mono ?_); (case side1 => repeat (first | exact (Kd.R_reads' HO_11.out).2.2 | (with_reducible refine Kd.C_alloc ?_ _) | (with_reducible refine Kd.C_drewN ?_ _) | (with_reducible refine Kd.C_drew ?_))); (case side2 => exact (Kd.R_reads' HO_11.out).2.1); (case side3 => repeat (first | exact (Kd.R_reads' HO_6.out).2.2 | (with_reducible refine Kd.C_alloc ?_ _) | (with_reducible refine Kd.C_drewN ?_ _) | (with_reducible refine Kd.C_drew ?_))); (case side4 => exact (Kd.R_reads' HO_6.out).2.1); rintro e w' ⟨rfl, ⟨nd, rfl⟩⟩; refine ⟨_, rfl, ?_⟩; have hcz61_0 : wr.cell? ⟨gb281, 0, none⟩ = some (.int .i64 t273) := (blk_cell BK281.out 0).trans rfl; have hcz61_1 : wr.cell? ⟨gb281, 1, none⟩ = some (.int .i64 t274) := (blk_cell BK281.out 1).trans rfl; have hcz61_2 : wr.cell? ⟨gb281, 2, none⟩ = some (.slice Ao8 t275.length co8) := (blk_cell BK281.out 2).trans rfl; have hfz61_0 := blk_frozen BK281.out 0; have hfz61_1 := blk_frozen BK281.out 1; have hfz61_2 := blk_frozen BK281.out 2) | (go_at_call 44; (with_reducible refine (impl_PlanOk.calls k2 t273 t274 _ _ t275 t301 _ ?side1 ?side2 A58.out).mono ?_); (case side1 => repeat (first | exact (Kd.R_reads' HO_282002.out).2.2 | (with_reducible refine Kd.C_alloc ?_ _) | (with_reducible refine Kd.C_drewN ?_ _) | (with_reducible refine Kd.C_drew ?_))); (case side2 => exact (Kd.R_reads' HO_282002.out).2.1); rintro e w62 ⟨rfl, hb⟩; have n0_ := Aside0.mk (Kd.R_below (by (with_reducible repeat (first | apply Kd.R_alloc | apply Kd.R_drewN | apply Kd.R_drew)); exact HO_4.out) hb); have n1_ := Aside0.mk (Kd.R_below (by (with_reducible repeat (first | apply Kd.R_alloc | apply Kd.R_drewN | apply Kd.R_drew)); exact HO_6.out) hb); have n2_ := Aside0.mk (Kd.R_below (by (with_reducible repeat (first | apply Kd.R_alloc | apply Kd.R_drewN | apply Kd.R_drew)); exact HO_11.out) hb); have n3_ := Aside0.mk (Kd.R_below (by (with_reducible repeat (first | apply Kd.R_alloc | apply Kd.R_drewN | apply Kd.R_drew)); exact HO_282002.out) hb); have n4_ := Aside0.mk (blk_below (g := gb281) (o := .cells #[.int .i64 t273, .int .i64 t274, .slice Ao8 t275.length co8] 30 (0, 0)) (by (with_reducible repeat (first | refine blk_drewN ?_ _ | refine blk_drew ?_ | refine blk_alloc ?_ _)); exact BK281.out) hb); have n5_ := Aside0.mk (below_step (by repeat (first | (with_reducible first | exact HB.out | apply below_alloc | apply pw_below_drewN | apply below_drew1 | refine below_set ?_ GE281.out) | exact HB.out)) hb); clear HO_4; clear HO_6; clear HO_11; clear HO_282002; clear BK281; clear HB; have HO_4 := n0_; have HO_6 := n1_; have HO_11 := n2_; have HO_282002 := n3_; have BK281 := n4_; have HB := n5_; clear n0_ n1_ n2_ n3_ n4_ n5_; (try clear hb); (try clear hb2); (try clear hk); (try clear hi)))
             go_meet
             case rel => exact ⟨_, (!t301), (by first | rfl | (simp; done) | (simp [*]; done)), H', ⟨by have := HK1.out; have := HK2.out; first | omega | exact Nat.le_refl _⟩, ⟨by (with_reducible repeat (first | apply Kd.R_alloc | apply Kd.R_drewN | apply Kd.R_drew)); exact HO_4.out⟩, ⟨by (with_reducible repeat (first | apply Kd.R_alloc | apply Kd.R_drewN | apply Kd.R_drew)); exact HO_282002.out⟩, ⟨by (with_reducible repeat (first | refine blk_drewN ?_ _ | refine blk_drew ?_ | refine blk_alloc ?_ _)); exact BK281.out⟩, ⟨by repeat (first | (with_reducible first | exact HB.out | apply below_alloc | apply pw_below_drewN | apply below_drew1 | refine below_set ?_ GE281.out) | exact HB.out)⟩⟩
           ·
            replace c53 := Bool.eq_false_iff.mpr c53
            subst c53
            have H1 : (laws_FnWindows.j4 k2 l0 t278 x5_1 true t273 t274 t275) = some r := by rw [if_neg (show ¬ (false = true) by decide)] at H; exact H
            clear H
            have H := H1
            clear H1
            have H' := Aside0.mk H
            clear H
            obtain ⟨Ao63, co63, eo63⟩ := Kd.R_slice HO_11.out
            subst eo63
            obtain ⟨Ao64, co64, eo64⟩ := Kd.R_slice HO_6.out
            subst eo64
            go_wp2_with (first | ((with_reducible refine gate_callee (f := 43) rfl ?_); refine goesL_ (some 125) rfl rfl Try.func43 (by kernel_rfl) rfl #[.slice Ao63 x11_2.length co63, .slice Ao64 x6_1.length co64] rfl (by (try simp only [List.map_toArray, List.map_cons, List.map_nil]); first | done | rfl | (simp only [List.length_drop, List.length_take]; rfl)) ?_; (with_reducible refine (laws_sameInts.calls k2 _ _ x11_2 _ _ x6_1 false _ ?side1 ?side2 ?side3 ?side4 A52.out).mono ?_); (case side1 => repeat (first | exact (Kd.R_reads' HO_11.out).2.2 | (with_reducible refine Kd.C_alloc ?_ _) | (with_reducible refine Kd.C_drewN ?_ _) | (with_reducible refine Kd.C_drew ?_))); (case side2 => exact (Kd.R_reads' HO_11.out).2.1); (case side3 => repeat (first | exact (Kd.R_reads' HO_6.out).2.2 | (with_reducible refine Kd.C_alloc ?_ _) | (with_reducible refine Kd.C_drewN ?_ _) | (with_reducible refine Kd.C_drew ?_))); (case side4 => exact (Kd.R_reads' HO_6.out).2.1); rintro e w' ⟨rfl, ⟨nd, rfl⟩⟩; refine ⟨_, rfl, ?_⟩))
            go_meet
            case rel => exact ⟨_, (true), (by first | rfl | (simp; done) | (simp [*]; done)), H', ⟨by have := HK1.out; have := HK2.out; first | omega | exact Nat.le_refl _⟩, ⟨by (with_reducible repeat (first | apply Kd.R_alloc | apply Kd.R_drewN | apply Kd.R_drew)); exact HO_4.out⟩, ⟨by (with_reducible repeat (first | apply Kd.R_alloc | apply Kd.R_drewN | apply Kd.R_drew)); exact HO_282002.out⟩, ⟨by (with_reducible repeat (first | refine blk_drewN ?_ _ | refine blk_drew ?_ | refine blk_alloc ?_ _)); exact BK281.out⟩, ⟨by repeat (first | (with_reducible first | exact HB.out | apply below_alloc | apply pw_below_drewN | apply below_drew1 | refine below_set ?_ GE281.out) | exact HB.out)⟩⟩
          case rest =>
           clear HC50
           try clear c1
           try clear c2
           try clear p2
           try clear q2
           try clear hx2
           try clear c3
           try clear c4
           try clear p4
           try clear q4
           try clear hx4
           try clear hf4
           try clear c5
           try clear p6
           try clear c7
           try clear c11
           try clear c11b0
           try clear c16
           try clear c17
           try clear c17b0
           try clear c18
           try clear c18b0
           try clear c21
           try clear c22
           try clear c24
           try clear c24b0
           try clear c24b1
           try clear c25
           try clear c25b0
           try clear c25b1
           try clear c29
           try clear c29b0
           try clear p29
           try clear q29
           try clear hx29
           try clear c37
           try clear c38
           try clear c38b0
           try clear c39
           try clear c39b0
           try clear c41
           try clear c42
           try clear c43
           try clear c43b0
           try clear c44
           try clear c44b0
           try clear c45
           try clear c45b0
           try clear p46
           try clear q46
           try clear hx46
           try clear hf46
           try clear c53
           try clear c54
           try clear c54b0
           try clear p64
           try clear hcz14_0
           try clear hcz14_1
           try clear hcz14_2
           try clear hcz19_0
           try clear hcz19_1
           try clear hcz19_2
           try clear hcz20_0
           try clear hcz20_1
           try clear hcz20_2
           try clear hcz26_0
           try clear hcz26_1
           try clear hcz26_2
           try clear hcz33_0
           try clear hcz33_1
           try clear hcz33_2
           try clear hcz35_0
           try clear hcz35_1
           try clear hcz35_2
           try clear hcz40_0
           try clear hcz40_1
           try clear hcz40_2
           try clear hcz41_0
           try clear hcz41_1
           try clear hcz41_2
           try clear hcz51_0
           try clear hcz51_1
           try clear hcz51_2
           try clear hcz57_0
           try clear hcz57_1
           try clear hcz57_2
           try clear hcz61_0
           try clear hcz61_1
           try clear hcz61_2
           try clear hcz7_0
           try clear hcz7_1
           try clear hcz7_2
           try clear hfz14_0
           try clear hfz14_1
           try clear hfz14_2
           try clear hfz19_0
           try clear hfz19_1
           try clear hfz19_2
           try clear hfz20_0
           try clear hfz20_1
           try clear hfz20_2
           try clear hfz26_0
           try clear hfz26_1
           try clear hfz26_2
           try clear hfz33_0
           try clear hfz33_1
           try clear hfz33_2
           try clear hfz35_0
           try clear hfz35_1
           try clear hfz35_2
           try clear hfz40_0
           try clear hfz40_1
           try clear hfz40_2
           try clear hfz41_0
           try clear hfz41_1
           try clear hfz41_2
           try clear hfz51_0
           try clear hfz51_1
           try clear hfz51_2
           try clear hfz57_0
           try clear hfz57_1
           try clear hfz57_2
           try clear hfz61_0
           try clear hfz61_1
           try clear hfz61_2
           try clear hfz7_0
           try clear hfz7_1
           try clear hfz7_2
           try clear hx298_0
           try clear hx46_0
           try clear p2
           try clear p298
           try clear p46
           try clear p6
           try clear q298
           try clear q46
           obtain ⟨kq, x137_49, rfl, HA, HJ49, HO_4, HO_282002, BK281, HB⟩ := hcut
           cases kq with
           | zero => exact absurd HA.out (by simp [laws_FnWindows.j4])
           | succ kj49 =>
            have H := HA.out
            clear HA
            simp only [laws_FnWindows.j4] at H
            by_cases c65 : x137_49 = true
            ·
             subst c65
             have H1 : (some false) = some r := by rw [if_pos rfl] at H; exact H
             clear H
             have H := H1
             clear H1
             obtain rfl := Option.some.inj H
             go_wp2
             go_ret
             exact ⟨by first | rfl | (simp [errW_none, errW_some] <;> rfl) | (simp [*, errW_none, errW_some] <;> rfl), by repeat (first | (with_reducible first | exact HB.out | apply below_alloc | apply pw_below_drewN | apply below_drew1 | refine below_set ?_ GE281.out) | exact HB.out)⟩
            ·
             replace c65 := Bool.eq_false_iff.mpr c65
             subst c65
             have H1 : ((laws_at.f l0 2).bind fun t302 => ((impl_FitWindow.f kj49 t273 t274 t275 0 (wrap64 (1 + (Int.tmod t302 4)))).bind fun bt303 => (laws_FnWindows.l2 kj49 t278 x5_1 bt303.2.2.2 0 t273 t274 t275 bt303.1 bt303.2.1 bt303.2.2.1))) = some r := by rw [if_neg (show ¬ (false = true) by decide)] at H; exact H
             clear H
             have H := H1
             clear H1
             replace H := Option.bind_eq_some_iff.mp H
             obtain ⟨t302, A660, H⟩ := H
             replace H : ((impl_FitWindow.f kj49 t273 t274 t275 0 (wrap64 (1 + (Int.tmod t302 4)))).bind fun bt303 => (laws_FnWindows.l2 kj49 t278 x5_1 bt303.2.2.2 0 t273 t274 t275 bt303.1 bt303.2.1 bt303.2.2.1)) = some r := H
             have A66 := Aside0.mk A660
             clear A660
             replace H := Option.bind_eq_some_iff.mp H
             obtain ⟨⟨t303, t304, t305, t308⟩, A670, H⟩ := H
             replace H : (laws_FnWindows.l2 kj49 t278 x5_1 t308 0 t273 t274 t275 t303 t304 t305) = some r := H
             have A67 := Aside0.mk A670
             clear A670
             have H' := Aside0.mk H
             clear H
             try go_wp2
             have n0_ := Aside0.mk (Kd.R_drew HO_4.out)
             have n1_ := Aside0.mk (Kd.R_drew HO_282002.out)
             have n2_ := Aside0.mk (blk_drew BK281.out)
             have n3_ := Aside0.mk (below_drew1 HB.out)
             clear HO_4
             clear HO_282002
             clear BK281
             clear HB
             have HO_4 := n0_
             have HO_282002 := n1_
             have BK281 := n2_
             have HB := n3_
             clear n0_ n1_ n2_ n3_
             refine start_ (n := 12) (S := fun w' => w'.cell? ⟨gb281, 0, none⟩ = some (.int .i64 t273) ∧ w'.cell? ⟨gb281, 1, none⟩ = some (.int .i64 t274) ∧ w'.cell? ⟨gb281, 2, none⟩ = some (.slice Ao8 t275.length co8)) (ds := []) #[false, false, false, false, false, false, false, false, false, false, false, false] (by kernel_rfl) rfl rfl ⟨(blk_cell BK281.out 0).trans rfl, (blk_cell BK281.out 1).trans rfl, (blk_cell BK281.out 2).trans rfl⟩ (fun hHeld => ?_); refine with_tabW laws_FnWindows.tab26 laws_FnWindows.bits26 (fun HT_ HW_ => ?_)
             generalize wc.drew = w68 at HO_4 HO_282002 BK281 HB hHeld ⊢
             refine pure_ (i := 1) (N := some 140) (v := ?_) (a' := ?_) #[false, true, false, false, false, false, false, false, false, false, false, false] rfl rfl (any_of HT_.out (by kernel_rfl)) (fun _ _ _ h => h) (Or.inl ⟨by rfl, ?_⟩) ?_ ?_
             rotate_left
             ·
              intro w'
              go_simp
              with_reducible rfl
             rotate_left
             ·
              simp only [Act.put, List.setIfInBounds_toArray, List.set_cons_zero, List.set_cons_succ, i64_w, i32_w]
              rfl
             refine take_ (i := 0) (N := some 139) (v := ?_) (a' := ?_) #[true, true, false, false, false, false, false, false, false, false, false, false] rfl rfl (take_ofW HT_.out HW_.out (by kernel_rfl)) (fun _ _ _ h => h) (Or.inl ⟨by rfl, ?_⟩) hHeld ?_ ?_
             rotate_left
             ·
              rintro w' ⟨s0, s1, s2⟩
              go_simp
              with_reducible rfl
             rotate_left
             ·
              simp only [Act.put, List.setIfInBounds_toArray, List.set_cons_zero, List.set_cons_succ, i64_w, i32_w]
              rfl
             refine join_ (σ := Value × Nat) 2 #[true, true, true, true, true, true, true, true, true, true, false, false] (fun s_ => [(141, .int .i64 t302), (144, .tuple #[.agg #[.int .i64 t303, .int .i64 t304, s_.1], .bool t308]), (17, .pointer (some ⟨s_.2, 0, none⟩)), (142, .int .i64 (Int.tmod t302 4)), (143, .int .i64 (wrap64 (1 + (Int.tmod t302 4)))), (138, .tuple #[.agg #[.int .i64 t303, .int .i64 t304, s_.1], .bool t308]), (145, .agg #[.int .i64 t303, .int .i64 t304, s_.1]), (146, .bool t308)]) (fun s_ w' => (w'.cell? ⟨gb281, 0, none⟩ = some (.int .i64 t273) ∧ w'.cell? ⟨gb281, 1, none⟩ = some (.int .i64 t274) ∧ w'.cell? ⟨gb281, 2, none⟩ = some (.slice Ao8 t275.length co8)) ∧ (Kd.R k143 143 w' w.heap.size (fun k_ => some k_ ≠ (.slice Ao8 t275.length co8 : Value).ownBlock) s_.1 t305) ∧ (Kd.R k143 143 w' w.heap.size (fun k_ => some k_ ≠ (s_.1 : Value).ownBlock) (.slice Ao8 t275.length co8) t275) ∧ (Kd.R k180 180 w' w.heap.size (fun _ => True) v279 t278) ∧ (w'.heap[gb281]? = some (.cells #[.int .i64 t273, .int .i64 t274, .slice Ao8 t275.length co8] 30 (0, 0))) ∧ (w'.heap[s_.2]? = some (.cells #[.int .i64 0, .int .i64 0, .slice none 0 0] 30 (0, 0))) ∧ (w.heap.size ≤ s_.2) ∧ (w.heap.size ≤ s_.2) ∧ (gb281 ≠ s_.2) ∧ (s_.2 ≠ gb281) ∧ (Below w.heap.size w w')) ?_ ?_
             rotate_left
             ·
              intro hCont
              refine two_ (i := 2) (j := 9) (Ni := some 141) (Nj := some 17) #[true, true, true, false, false, false, false, false, false, false, false, false] #[true, true, false, false, false, false, false, false, false, true, false, false] rfl rfl rfl rfl (two_of HT_.out (by kernel_rfl)) (by decide) (by decide) (fun K hK => ?_) (fun K hK => ?_)
              ·
               skip
               refine goes_ Try.func25 (by kernel_rfl) rfl #[.slice A0 l0.length c0, .int .i64 2] (by rfl) rfl rfl (by (try simp only [List.map_toArray, List.map_cons, List.map_nil]); first | done | rfl | (simp only [List.length_drop, List.length_take]; rfl)) ?_
               with_reducible refine (laws_at.calls _ _ l0 2 t302 _ ?side1 ?side2 A66.out).mono ?_
               (case side1 => repeat (first | exact (Kd.C_below HR0.out HB.out) | (with_reducible refine Kd.C_alloc ?_ _) | (with_reducible refine Kd.C_drewN ?_ _) | (with_reducible refine Kd.C_drew ?_)))
               (case side2 => exact HC0.out)
               rintro e w' ⟨rfl, ⟨nd, rfl⟩⟩
               refine ⟨_, rfl, ?_⟩
               refine hK.out _ _ ⟨(blk_cell BK281.out 0).trans rfl, (blk_cell BK281.out 1).trans rfl, (blk_cell BK281.out 2).trans rfl⟩ (fun hHeld => ?_)
               clear hK K
               refine norm_ (a' := ?_) ?_ ?_
               rotate_left
               ·
                show Act.put _ (some 141) _ = _
                simp only [Act.put, List.setIfInBounds_toArray, List.set_cons_zero, List.set_cons_succ, i64_w, i32_w]
                rfl
               refine pure_ (i := 3) (N := some 142) (v := ?_) (a' := ?_) #[true, true, true, true, false, false, false, false, false, false, false, false] rfl rfl (any_of HT_.out (by kernel_rfl)) (fun _ _ _ h => h) (Or.inl ⟨by rfl, ?_⟩) ?_ ?_
               rotate_left
               ·
                intro w'
                go_simp
                with_reducible rfl
               rotate_left
               ·
                simp only [Act.put, List.setIfInBounds_toArray, List.set_cons_zero, List.set_cons_succ, i64_w, i32_w]
                rfl
               refine pure_ (i := 4) (N := some 143) (v := ?_) (a' := ?_) #[true, true, true, true, true, false, false, false, false, false, false, false] rfl rfl (any_of HT_.out (by kernel_rfl)) (fun _ _ _ h => h) (Or.inl ⟨by rfl, ?_⟩) ?_ ?_
               rotate_left
               ·
                intro w'
                go_simp
                with_reducible rfl
               rotate_left
               ·
                simp only [Act.put, List.setIfInBounds_toArray, List.set_cons_zero, List.set_cons_succ, i64_w, i32_w]
                rfl
               refine two_ (i := 5) (j := 9) (Ni := some 144) (Nj := some 17) #[true, true, true, true, true, true, false, false, false, false, false, false] #[true, true, true, true, true, false, false, false, false, true, false, false] rfl rfl rfl rfl (two_of HT_.out (by kernel_rfl)) (by decide) (by decide) (fun K hK => ?_) (fun K hK => ?_)
               ·
                skip
                refine goes_ Try.func27 (by kernel_rfl) rfl #[.agg #[.int .i64 t273, .int .i64 t274, .slice Ao8 t275.length co8], .int .i64 0, .int .i64 (wrap64 (1 + (Int.tmod t302 4)))] (by rfl) rfl rfl (by (try simp only [List.map_toArray, List.map_cons, List.map_nil]); first | done | rfl | (simp only [List.length_drop, List.length_take]; rfl)) ?_
                with_reducible refine (impl_FitWindow.calls kj49 t273 t274 _ _ t275 0 (wrap64 (1 + (Int.tmod t302 4))) t303 t304 t305 t308 _ ?side1 ?side2 A67.out).mono ?_
                (case side1 => repeat (first | exact (Kd.R_reads' HO_282002.out).2.2 | (with_reducible refine Kd.C_alloc ?_ _) | (with_reducible refine Kd.C_drewN ?_ _) | (with_reducible refine Kd.C_drew ?_)))
                (case side2 => exact (Kd.R_reads' HO_282002.out).2.1)
                rintro e w69 ⟨v306, rfl, ho0, hb⟩
                refine ⟨_, rfl, ?_⟩
                have n0_ := Aside0.mk (Kd.R_below (by (with_reducible repeat (first | apply Kd.R_alloc | apply Kd.R_drewN | apply Kd.R_drew)); exact HO_4.out) hb)
                have n1_ := Aside0.mk (Kd.R_elder' (by (with_reducible repeat (first | apply Kd.R_alloc | apply Kd.R_drewN | apply Kd.R_drew)); exact HO_282002.out) (Kd.R_base ho0) hb)
                have n2_ := Aside0.mk (Kd.R_lower (Kd.R_new' ho0 (Kd.R_lt (by (with_reducible repeat (first | apply Kd.R_alloc | apply Kd.R_drewN | apply Kd.R_drew)); exact HO_282002.out))) (below_size (by repeat (first | (with_reducible first | exact HB.out | apply below_alloc | apply pw_below_drewN | apply below_drew1 | refine below_set ?_ GE281.out) | exact HB.out))))
                have n3_ := Aside0.mk (blk_below (g := gb281) (o := .cells #[.int .i64 t273, .int .i64 t274, .slice Ao8 t275.length co8] 30 (0, 0)) (by (with_reducible repeat (first | refine blk_drewN ?_ _ | refine blk_drew ?_ | refine blk_alloc ?_ _)); exact BK281.out) hb)
                have n4_ := Aside0.mk (below_step (by repeat (first | (with_reducible first | exact HB.out | apply below_alloc | apply pw_below_drewN | apply below_drew1 | refine below_set ?_ GE281.out) | exact HB.out)) hb)
                clear HO_4
                clear HO_282002
                clear BK281
                clear HB
                have HO_4 := n0_
                have HO_282002 := n1_
                have HO307 := n2_
                have BK281 := n3_
                have HB := n4_
                clear n0_ n1_ n2_ n3_ n4_
                (try clear hb)
                (try clear hb2)
                (try clear hk)
                (try clear hi)
                (try clear ho0)
                refine hK.out _ _ ⟨(blk_cell BK281.out 0).trans rfl, (blk_cell BK281.out 1).trans rfl, (blk_cell BK281.out 2).trans rfl⟩ (fun hHeld => ?_)
                clear hK K
                refine norm_ (a' := ?_) ?_ ?_
                rotate_left
                ·
                 show Act.put _ (some 144) _ = _
                 simp only [Act.put, List.setIfInBounds_toArray, List.set_cons_zero, List.set_cons_succ, i64_w, i32_w]
                 rfl
                refine pure_ (i := 6) (N := some 138) (v := ?_) (a' := ?_) #[true, true, true, true, true, true, true, false, false, false, false, false] rfl rfl (any_of HT_.out (by kernel_rfl)) (fun _ _ _ h => h) (Or.inl ⟨by rfl, ?_⟩) ?_ ?_
                rotate_left
                ·
                 intro w'
                 go_simp
                 with_reducible rfl
                rotate_left
                ·
                 simp only [Act.put, List.setIfInBounds_toArray, List.set_cons_zero, List.set_cons_succ, i64_w, i32_w]
                 rfl
                refine pure_ (i := 7) (N := some 145) (v := ?_) (a' := ?_) #[true, true, true, true, true, true, true, true, false, false, false, false] rfl rfl (any_of HT_.out (by kernel_rfl)) (fun _ _ _ h => h) (Or.inl ⟨by rfl, ?_⟩) ?_ ?_
                rotate_left
                ·
                 intro w'
                 go_simp
                 with_reducible rfl
                rotate_left
                ·
                 simp only [Act.put, List.setIfInBounds_toArray, List.set_cons_zero, List.set_cons_succ, i64_w, i32_w]
                 rfl
                refine pure_ (i := 8) (N := some 146) (v := ?_) (a' := ?_) #[true, true, true, true, true, true, true, true, true, false, false, false] rfl rfl (any_of HT_.out (by kernel_rfl)) (fun _ _ _ h => h) (Or.inl ⟨by rfl, ?_⟩) ?_ ?_
                rotate_left
                ·
                 intro w'
                 go_simp
                 with_reducible rfl
                rotate_left
                ·
                 simp only [Act.put, List.setIfInBounds_toArray, List.set_cons_zero, List.set_cons_succ, i64_w, i32_w]
                 rfl
                refine one_ (i := 9) (N := some 17) #[true, true, true, true, true, true, true, true, true, true, false, false] rfl rfl (one_of HT_.out (by kernel_rfl)) (by decide) (fun K hK => ?_)
                refine box_step ?hg (N := 17) ?hd (cs := #[.int .i64 0, .int .i64 0, .slice none 0 0]) (t := 30) ?hr ?_; (case hd => rfl); (case hg => rfl); (case hr => first | (go_simp; done) | (go_simp; rfl))
                intro gb309 hg w70 hbox hb
                have n0_ := Aside0.mk (Kd.R_below (by (with_reducible repeat (first | apply Kd.R_alloc | apply Kd.R_drewN | apply Kd.R_drew)); exact HO_4.out) hb)
                have n1_ := Aside0.mk (Kd.R_below (by (with_reducible repeat (first | apply Kd.R_alloc | apply Kd.R_drewN | apply Kd.R_drew)); exact HO_282002.out) hb)
                have n2_ := Aside0.mk (Kd.R_below (by (with_reducible repeat (first | apply Kd.R_alloc | apply Kd.R_drewN | apply Kd.R_drew)); exact HO307.out) hb)
                have n3_ := Aside0.mk (blk_below (g := gb281) (o := .cells #[.int .i64 t273, .int .i64 t274, .slice Ao8 t275.length co8] 30 (0, 0)) (by (with_reducible repeat (first | refine blk_drewN ?_ _ | refine blk_drew ?_ | refine blk_alloc ?_ _)); exact BK281.out) hb)
                have n4_ := Aside0.mk (below_step (by repeat (first | (with_reducible first | exact HB.out | apply below_alloc | apply pw_below_drewN | apply below_drew1 | refine below_set ?_ GE281.out) | exact HB.out)) hb)
                have n5_ := Aside0.mk (hbox)
                have n6_ := Aside0.mk ((by rw [hg]; exact (below_size (by repeat (first | (with_reducible first | exact HB.out | apply below_alloc | apply pw_below_drewN | apply below_drew1 | refine below_set ?_ GE281.out) | exact HB.out))) : w.heap.size ≤ gb309))
                have n7_ := Aside0.mk ((by rw [hg]; exact (below_size (by repeat (first | (with_reducible first | exact HB.out | apply below_alloc | apply pw_below_drewN | apply below_drew1 | refine below_set ?_ GE281.out) | exact HB.out))) : w.heap.size ≤ gb309))
                have n8_ := Aside0.mk ((by rw [hg]; exact Nat.ne_of_lt (blk_lt (g := gb281) (o := .cells #[.int .i64 t273, .int .i64 t274, .slice Ao8 t275.length co8] 30 (0, 0)) (by (with_reducible repeat (first | refine blk_drewN ?_ _ | refine blk_drew ?_ | refine blk_alloc ?_ _)); exact BK281.out)) : gb281 ≠ gb309))
                have n9_ := Aside0.mk ((by rw [hg]; exact Nat.ne_of_gt (blk_lt (g := gb281) (o := .cells #[.int .i64 t273, .int .i64 t274, .slice Ao8 t275.length co8] 30 (0, 0)) (by (with_reducible repeat (first | refine blk_drewN ?_ _ | refine blk_drew ?_ | refine blk_alloc ?_ _)); exact BK281.out)) : gb309 ≠ gb281))
                clear HO_4
                clear HO_282002
                clear HO307
                clear BK281
                clear HB
                have HO_4 := n0_
                have HO_282002 := n1_
                have HO307 := n2_
                have BK281 := n3_
                have HB := n4_
                have BK309 := n5_
                have GW309 := n6_
                have GE309 := n7_
                have NB281_309 := n8_
                have NB309_281 := n9_
                clear n0_ n1_ n2_ n3_ n4_ n5_ n6_ n7_ n8_ n9_
                clear hb hbox hg
                refine hK.out _ _ ⟨(blk_cell BK281.out 0).trans rfl, (blk_cell BK281.out 1).trans rfl, (blk_cell BK281.out 2).trans rfl⟩ (fun hHeld => ?_)
                clear hK K
                refine norm_ (a' := ?_) ?_ ?_
                rotate_left
                ·
                 show Act.put _ (some 17) _ = _
                 simp only [Act.put, List.setIfInBounds_toArray, List.set_cons_zero, List.set_cons_succ, i64_w, i32_w]
                 rfl
                exact norm_ (by simp only [putAll, Act.put, List.setIfInBounds_toArray, List.set_cons_zero, List.set_cons_succ]) (hCont (v306, gb309) _ ⟨hHeld, (by (with_reducible repeat (first | apply Kd.R_alloc | apply Kd.R_drewN | apply Kd.R_drew)); exact Kd.R_mono HO307.out (fun _ hk => hk.2)), (by (with_reducible repeat (first | apply Kd.R_alloc | apply Kd.R_drewN | apply Kd.R_drew)); exact Kd.R_mono HO_282002.out (fun _ hk => hk.2)), (by (with_reducible repeat (first | apply Kd.R_alloc | apply Kd.R_drewN | apply Kd.R_drew)); exact HO_4.out), (by (with_reducible repeat (first | refine blk_drewN ?_ _ | refine blk_drew ?_ | refine blk_alloc ?_ _)); exact BK281.out), (by (with_reducible repeat (first | refine blk_drewN ?_ _ | refine blk_drew ?_ | refine blk_alloc ?_ _)); exact BK309.out), GW309.out, GE309.out, NB281_309.out, NB309_281.out, (by repeat (first | (with_reducible first | exact HB.out | apply below_alloc | apply pw_below_drewN | apply below_drew1 | refine below_set ?_ GE281.out | refine below_set ?_ GE309.out) | exact HB.out))⟩)
               ·
                skip
                refine box_step ?hg (N := 17) ?hd (cs := #[.int .i64 0, .int .i64 0, .slice none 0 0]) (t := 30) ?hr ?_; (case hd => rfl); (case hg => rfl); (case hr => first | (go_simp; done) | (go_simp; rfl))
                intro gb309 hg w69 hbox hb
                have n0_ := Aside0.mk (Kd.R_below (by (with_reducible repeat (first | apply Kd.R_alloc | apply Kd.R_drewN | apply Kd.R_drew)); exact HO_4.out) hb)
                have n1_ := Aside0.mk (Kd.R_below (by (with_reducible repeat (first | apply Kd.R_alloc | apply Kd.R_drewN | apply Kd.R_drew)); exact HO_282002.out) hb)
                have n2_ := Aside0.mk (blk_below (g := gb281) (o := .cells #[.int .i64 t273, .int .i64 t274, .slice Ao8 t275.length co8] 30 (0, 0)) (by (with_reducible repeat (first | refine blk_drewN ?_ _ | refine blk_drew ?_ | refine blk_alloc ?_ _)); exact BK281.out) hb)
                have n3_ := Aside0.mk (below_step (by repeat (first | (with_reducible first | exact HB.out | apply below_alloc | apply pw_below_drewN | apply below_drew1 | refine below_set ?_ GE281.out) | exact HB.out)) hb)
                have n4_ := Aside0.mk (hbox)
                have n5_ := Aside0.mk ((by rw [hg]; exact (below_size (by repeat (first | (with_reducible first | exact HB.out | apply below_alloc | apply pw_below_drewN | apply below_drew1 | refine below_set ?_ GE281.out) | exact HB.out))) : w.heap.size ≤ gb309))
                have n6_ := Aside0.mk ((by rw [hg]; exact (below_size (by repeat (first | (with_reducible first | exact HB.out | apply below_alloc | apply pw_below_drewN | apply below_drew1 | refine below_set ?_ GE281.out) | exact HB.out))) : w.heap.size ≤ gb309))
                have n7_ := Aside0.mk ((by rw [hg]; exact Nat.ne_of_lt (blk_lt (g := gb281) (o := .cells #[.int .i64 t273, .int .i64 t274, .slice Ao8 t275.length co8] 30 (0, 0)) (by (with_reducible repeat (first | refine blk_drewN ?_ _ | refine blk_drew ?_ | refine blk_alloc ?_ _)); exact BK281.out)) : gb281 ≠ gb309))
                have n8_ := Aside0.mk ((by rw [hg]; exact Nat.ne_of_gt (blk_lt (g := gb281) (o := .cells #[.int .i64 t273, .int .i64 t274, .slice Ao8 t275.length co8] 30 (0, 0)) (by (with_reducible repeat (first | refine blk_drewN ?_ _ | refine blk_drew ?_ | refine blk_alloc ?_ _)); exact BK281.out)) : gb309 ≠ gb281))
                clear HO_4
                clear HO_282002
                clear BK281
                clear HB
                have HO_4 := n0_
                have HO_282002 := n1_
                have BK281 := n2_
                have HB := n3_
                have BK309 := n4_
                have GW309 := n5_
                have GE309 := n6_
                have NB281_309 := n7_
                have NB309_281 := n8_
                clear n0_ n1_ n2_ n3_ n4_ n5_ n6_ n7_ n8_
                clear hb hbox hg
                refine hK.out _ _ ⟨(blk_cell BK281.out 0).trans rfl, (blk_cell BK281.out 1).trans rfl, (blk_cell BK281.out 2).trans rfl⟩ (fun hHeld => ?_)
                clear hK K
                refine norm_ (a' := ?_) ?_ ?_
                rotate_left
                ·
                 show Act.put _ (some 17) _ = _
                 simp only [Act.put, List.setIfInBounds_toArray, List.set_cons_zero, List.set_cons_succ, i64_w, i32_w]
                 rfl
                refine one_ (i := 5) (N := some 144) #[true, true, true, true, true, true, false, false, false, true, false, false] rfl rfl (one_of HT_.out (by kernel_rfl)) (by decide) (fun K hK => ?_)
                refine goes_ Try.func27 (by kernel_rfl) rfl #[.agg #[.int .i64 t273, .int .i64 t274, .slice Ao8 t275.length co8], .int .i64 0, .int .i64 (wrap64 (1 + (Int.tmod t302 4)))] (by rfl) rfl rfl (by (try simp only [List.map_toArray, List.map_cons, List.map_nil]); first | done | rfl | (simp only [List.length_drop, List.length_take]; rfl)) ?_
                with_reducible refine (impl_FitWindow.calls kj49 t273 t274 _ _ t275 0 (wrap64 (1 + (Int.tmod t302 4))) t303 t304 t305 t308 _ ?side1 ?side2 A67.out).mono ?_
                (case side1 => repeat (first | exact (Kd.R_reads' HO_282002.out).2.2 | (with_reducible refine Kd.C_alloc ?_ _) | (with_reducible refine Kd.C_drewN ?_ _) | (with_reducible refine Kd.C_drew ?_)))
                (case side2 => exact (Kd.R_reads' HO_282002.out).2.1)
                rintro e w70 ⟨v306, rfl, ho0, hb⟩
                refine ⟨_, rfl, ?_⟩
                have n0_ := Aside0.mk (Kd.R_below (by (with_reducible repeat (first | apply Kd.R_alloc | apply Kd.R_drewN | apply Kd.R_drew)); exact HO_4.out) hb)
                have n1_ := Aside0.mk (Kd.R_elder' (by (with_reducible repeat (first | apply Kd.R_alloc | apply Kd.R_drewN | apply Kd.R_drew)); exact HO_282002.out) (Kd.R_base ho0) hb)
                have n2_ := Aside0.mk (Kd.R_lower (Kd.R_new' ho0 (Kd.R_lt (by (with_reducible repeat (first | apply Kd.R_alloc | apply Kd.R_drewN | apply Kd.R_drew)); exact HO_282002.out))) (below_size (by repeat (first | (with_reducible first | exact HB.out | apply below_alloc | apply pw_below_drewN | apply below_drew1 | refine below_set ?_ GE281.out | refine below_set ?_ GE309.out) | exact HB.out))))
                have n3_ := Aside0.mk (blk_below (g := gb281) (o := .cells #[.int .i64 t273, .int .i64 t274, .slice Ao8 t275.length co8] 30 (0, 0)) (by (with_reducible repeat (first | refine blk_drewN ?_ _ | refine blk_drew ?_ | refine blk_alloc ?_ _)); exact BK281.out) hb)
                have n4_ := Aside0.mk (blk_below (g := gb309) (o := .cells #[.int .i64 0, .int .i64 0, .slice none 0 0] 30 (0, 0)) (by (with_reducible repeat (first | refine blk_drewN ?_ _ | refine blk_drew ?_ | refine blk_alloc ?_ _)); exact BK309.out) hb)
                have n5_ := Aside0.mk (below_step (by repeat (first | (with_reducible first | exact HB.out | apply below_alloc | apply pw_below_drewN | apply below_drew1 | refine below_set ?_ GE281.out | refine below_set ?_ GE309.out) | exact HB.out)) hb)
                clear HO_4
                clear HO_282002
                clear BK281
                clear BK309
                clear HB
                have HO_4 := n0_
                have HO_282002 := n1_
                have HO307 := n2_
                have BK281 := n3_
                have BK309 := n4_
                have HB := n5_
                clear n0_ n1_ n2_ n3_ n4_ n5_
                (try clear hb)
                (try clear hb2)
                (try clear hk)
                (try clear hi)
                (try clear ho0)
                refine hK.out _ _ ⟨(blk_cell BK281.out 0).trans rfl, (blk_cell BK281.out 1).trans rfl, (blk_cell BK281.out 2).trans rfl⟩ (fun hHeld => ?_)
                clear hK K
                refine norm_ (a' := ?_) ?_ ?_
                rotate_left
                ·
                 show Act.put _ (some 144) _ = _
                 simp only [Act.put, List.setIfInBounds_toArray, List.set_cons_zero, List.set_cons_succ, i64_w, i32_w]
                 rfl
                refine pure_ (i := 6) (N := some 138) (v := ?_) (a' := ?_) #[true, true, true, true, true, true, true, false, false, true, false, false] rfl rfl (any_of HT_.out (by kernel_rfl)) (fun _ _ _ h => h) (Or.inl ⟨by rfl, ?_⟩) ?_ ?_
                rotate_left
                ·
                 intro w'
                 go_simp
                 with_reducible rfl
                rotate_left
                ·
                 simp only [Act.put, List.setIfInBounds_toArray, List.set_cons_zero, List.set_cons_succ, i64_w, i32_w]
                 rfl
                refine pure_ (i := 7) (N := some 145) (v := ?_) (a' := ?_) #[true, true, true, true, true, true, true, true, false, true, false, false] rfl rfl (any_of HT_.out (by kernel_rfl)) (fun _ _ _ h => h) (Or.inl ⟨by rfl, ?_⟩) ?_ ?_
                rotate_left
                ·
                 intro w'
                 go_simp
                 with_reducible rfl
                rotate_left
                ·
                 simp only [Act.put, List.setIfInBounds_toArray, List.set_cons_zero, List.set_cons_succ, i64_w, i32_w]
                 rfl
                refine pure_ (i := 8) (N := some 146) (v := ?_) (a' := ?_) #[true, true, true, true, true, true, true, true, true, true, false, false] rfl rfl (any_of HT_.out (by kernel_rfl)) (fun _ _ _ h => h) (Or.inl ⟨by rfl, ?_⟩) ?_ ?_
                rotate_left
                ·
                 intro w'
                 go_simp
                 with_reducible rfl
                rotate_left
                ·
                 simp only [Act.put, List.setIfInBounds_toArray, List.set_cons_zero, List.set_cons_succ, i64_w, i32_w]
                 rfl
                exact norm_ (by simp only [putAll, Act.put, List.setIfInBounds_toArray, List.set_cons_zero, List.set_cons_succ]) (hCont (v306, gb309) _ ⟨hHeld, (by (with_reducible repeat (first | apply Kd.R_alloc | apply Kd.R_drewN | apply Kd.R_drew)); exact Kd.R_mono HO307.out (fun _ hk => hk.2)), (by (with_reducible repeat (first | apply Kd.R_alloc | apply Kd.R_drewN | apply Kd.R_drew)); exact Kd.R_mono HO_282002.out (fun _ hk => hk.2)), (by (with_reducible repeat (first | apply Kd.R_alloc | apply Kd.R_drewN | apply Kd.R_drew)); exact HO_4.out), (by (with_reducible repeat (first | refine blk_drewN ?_ _ | refine blk_drew ?_ | refine blk_alloc ?_ _)); exact BK281.out), (by (with_reducible repeat (first | refine blk_drewN ?_ _ | refine blk_drew ?_ | refine blk_alloc ?_ _)); exact BK309.out), GW309.out, GE309.out, NB281_309.out, NB309_281.out, (by repeat (first | (with_reducible first | exact HB.out | apply below_alloc | apply pw_below_drewN | apply below_drew1 | refine below_set ?_ GE281.out | refine below_set ?_ GE309.out) | exact HB.out))⟩)
              ·
               skip
               refine box_step ?hg (N := 17) ?hd (cs := #[.int .i64 0, .int .i64 0, .slice none 0 0]) (t := 30) ?hr ?_; (case hd => rfl); (case hg => rfl); (case hr => first | (go_simp; done) | (go_simp; rfl))
               intro gb309 hg w69 hbox hb
               have n0_ := Aside0.mk (Kd.R_below (by (with_reducible repeat (first | apply Kd.R_alloc | apply Kd.R_drewN | apply Kd.R_drew)); exact HO_4.out) hb)
               have n1_ := Aside0.mk (Kd.R_below (by (with_reducible repeat (first | apply Kd.R_alloc | apply Kd.R_drewN | apply Kd.R_drew)); exact HO_282002.out) hb)
               have n2_ := Aside0.mk (blk_below (g := gb281) (o := .cells #[.int .i64 t273, .int .i64 t274, .slice Ao8 t275.length co8] 30 (0, 0)) (by (with_reducible repeat (first | refine blk_drewN ?_ _ | refine blk_drew ?_ | refine blk_alloc ?_ _)); exact BK281.out) hb)
               have n3_ := Aside0.mk (below_step (by repeat (first | (with_reducible first | exact HB.out | apply below_alloc | apply pw_below_drewN | apply below_drew1 | refine below_set ?_ GE281.out) | exact HB.out)) hb)
               have n4_ := Aside0.mk (hbox)
               have n5_ := Aside0.mk ((by rw [hg]; exact (below_size (by repeat (first | (with_reducible first | exact HB.out | apply below_alloc | apply pw_below_drewN | apply below_drew1 | refine below_set ?_ GE281.out) | exact HB.out))) : w.heap.size ≤ gb309))
               have n6_ := Aside0.mk ((by rw [hg]; exact (below_size (by repeat (first | (with_reducible first | exact HB.out | apply below_alloc | apply pw_below_drewN | apply below_drew1 | refine below_set ?_ GE281.out) | exact HB.out))) : w.heap.size ≤ gb309))
               have n7_ := Aside0.mk ((by rw [hg]; exact Nat.ne_of_lt (blk_lt (g := gb281) (o := .cells #[.int .i64 t273, .int .i64 t274, .slice Ao8 t275.length co8] 30 (0, 0)) (by (with_reducible repeat (first | refine blk_drewN ?_ _ | refine blk_drew ?_ | refine blk_alloc ?_ _)); exact BK281.out)) : gb281 ≠ gb309))
               have n8_ := Aside0.mk ((by rw [hg]; exact Nat.ne_of_gt (blk_lt (g := gb281) (o := .cells #[.int .i64 t273, .int .i64 t274, .slice Ao8 t275.length co8] 30 (0, 0)) (by (with_reducible repeat (first | refine blk_drewN ?_ _ | refine blk_drew ?_ | refine blk_alloc ?_ _)); exact BK281.out)) : gb309 ≠ gb281))
               clear HO_4
               clear HO_282002
               clear BK281
               clear HB
               have HO_4 := n0_
               have HO_282002 := n1_
               have BK281 := n2_
               have HB := n3_
               have BK309 := n4_
               have GW309 := n5_
               have GE309 := n6_
               have NB281_309 := n7_
               have NB309_281 := n8_
               clear n0_ n1_ n2_ n3_ n4_ n5_ n6_ n7_ n8_
               clear hb hbox hg
               refine hK.out _ _ ⟨(blk_cell BK281.out 0).trans rfl, (blk_cell BK281.out 1).trans rfl, (blk_cell BK281.out 2).trans rfl⟩ (fun hHeld => ?_)
               clear hK K
               refine norm_ (a' := ?_) ?_ ?_
               rotate_left
               ·
                show Act.put _ (some 17) _ = _
                simp only [Act.put, List.setIfInBounds_toArray, List.set_cons_zero, List.set_cons_succ, i64_w, i32_w]
                rfl
               refine one_ (i := 2) (N := some 141) #[true, true, true, false, false, false, false, false, false, true, false, false] rfl rfl (one_of HT_.out (by kernel_rfl)) (by decide) (fun K hK => ?_)
               refine goes_ Try.func25 (by kernel_rfl) rfl #[.slice A0 l0.length c0, .int .i64 2] (by rfl) rfl rfl (by (try simp only [List.map_toArray, List.map_cons, List.map_nil]); first | done | rfl | (simp only [List.length_drop, List.length_take]; rfl)) ?_
               with_reducible refine (laws_at.calls _ _ l0 2 t302 _ ?side1 ?side2 A66.out).mono ?_
               (case side1 => repeat (first | exact (Kd.C_below HR0.out HB.out) | (with_reducible refine Kd.C_alloc ?_ _) | (with_reducible refine Kd.C_drewN ?_ _) | (with_reducible refine Kd.C_drew ?_)))
               (case side2 => exact HC0.out)
               rintro e w' ⟨rfl, ⟨nd, rfl⟩⟩
               refine ⟨_, rfl, ?_⟩
               refine hK.out _ _ ⟨(blk_cell BK281.out 0).trans rfl, (blk_cell BK281.out 1).trans rfl, (blk_cell BK281.out 2).trans rfl⟩ (fun hHeld => ?_)
               clear hK K
               refine norm_ (a' := ?_) ?_ ?_
               rotate_left
               ·
                show Act.put _ (some 141) _ = _
                simp only [Act.put, List.setIfInBounds_toArray, List.set_cons_zero, List.set_cons_succ, i64_w, i32_w]
                rfl
               refine pure_ (i := 3) (N := some 142) (v := ?_) (a' := ?_) #[true, true, true, true, false, false, false, false, false, true, false, false] rfl rfl (any_of HT_.out (by kernel_rfl)) (fun _ _ _ h => h) (Or.inl ⟨by rfl, ?_⟩) ?_ ?_
               rotate_left
               ·
                intro w'
                go_simp
                with_reducible rfl
               rotate_left
               ·
                simp only [Act.put, List.setIfInBounds_toArray, List.set_cons_zero, List.set_cons_succ, i64_w, i32_w]
                rfl
               refine pure_ (i := 4) (N := some 143) (v := ?_) (a' := ?_) #[true, true, true, true, true, false, false, false, false, true, false, false] rfl rfl (any_of HT_.out (by kernel_rfl)) (fun _ _ _ h => h) (Or.inl ⟨by rfl, ?_⟩) ?_ ?_
               rotate_left
               ·
                intro w'
                go_simp
                with_reducible rfl
               rotate_left
               ·
                simp only [Act.put, List.setIfInBounds_toArray, List.set_cons_zero, List.set_cons_succ, i64_w, i32_w]
                rfl
               refine one_ (i := 5) (N := some 144) #[true, true, true, true, true, true, false, false, false, true, false, false] rfl rfl (one_of HT_.out (by kernel_rfl)) (by decide) (fun K hK => ?_)
               refine goes_ Try.func27 (by kernel_rfl) rfl #[.agg #[.int .i64 t273, .int .i64 t274, .slice Ao8 t275.length co8], .int .i64 0, .int .i64 (wrap64 (1 + (Int.tmod t302 4)))] (by rfl) rfl rfl (by (try simp only [List.map_toArray, List.map_cons, List.map_nil]); first | done | rfl | (simp only [List.length_drop, List.length_take]; rfl)) ?_
               with_reducible refine (impl_FitWindow.calls kj49 t273 t274 _ _ t275 0 (wrap64 (1 + (Int.tmod t302 4))) t303 t304 t305 t308 _ ?side1 ?side2 A67.out).mono ?_
               (case side1 => repeat (first | exact (Kd.R_reads' HO_282002.out).2.2 | (with_reducible refine Kd.C_alloc ?_ _) | (with_reducible refine Kd.C_drewN ?_ _) | (with_reducible refine Kd.C_drew ?_)))
               (case side2 => exact (Kd.R_reads' HO_282002.out).2.1)
               rintro e w70 ⟨v306, rfl, ho0, hb⟩
               refine ⟨_, rfl, ?_⟩
               have n0_ := Aside0.mk (Kd.R_below (by (with_reducible repeat (first | apply Kd.R_alloc | apply Kd.R_drewN | apply Kd.R_drew)); exact HO_4.out) hb)
               have n1_ := Aside0.mk (Kd.R_elder' (by (with_reducible repeat (first | apply Kd.R_alloc | apply Kd.R_drewN | apply Kd.R_drew)); exact HO_282002.out) (Kd.R_base ho0) hb)
               have n2_ := Aside0.mk (Kd.R_lower (Kd.R_new' ho0 (Kd.R_lt (by (with_reducible repeat (first | apply Kd.R_alloc | apply Kd.R_drewN | apply Kd.R_drew)); exact HO_282002.out))) (below_size (by repeat (first | (with_reducible first | exact HB.out | apply below_alloc | apply pw_below_drewN | apply below_drew1 | refine below_set ?_ GE281.out | refine below_set ?_ GE309.out) | exact HB.out))))
               have n3_ := Aside0.mk (blk_below (g := gb281) (o := .cells #[.int .i64 t273, .int .i64 t274, .slice Ao8 t275.length co8] 30 (0, 0)) (by (with_reducible repeat (first | refine blk_drewN ?_ _ | refine blk_drew ?_ | refine blk_alloc ?_ _)); exact BK281.out) hb)
               have n4_ := Aside0.mk (blk_below (g := gb309) (o := .cells #[.int .i64 0, .int .i64 0, .slice none 0 0] 30 (0, 0)) (by (with_reducible repeat (first | refine blk_drewN ?_ _ | refine blk_drew ?_ | refine blk_alloc ?_ _)); exact BK309.out) hb)
               have n5_ := Aside0.mk (below_step (by repeat (first | (with_reducible first | exact HB.out | apply below_alloc | apply pw_below_drewN | apply below_drew1 | refine below_set ?_ GE281.out | refine below_set ?_ GE309.out) | exact HB.out)) hb)
               clear HO_4
               clear HO_282002
               clear BK281
               clear BK309
               clear HB
               have HO_4 := n0_
               have HO_282002 := n1_
               have HO307 := n2_
               have BK281 := n3_
               have BK309 := n4_
               have HB := n5_
               clear n0_ n1_ n2_ n3_ n4_ n5_
               (try clear hb)
               (try clear hb2)
               (try clear hk)
               (try clear hi)
               (try clear ho0)
               refine hK.out _ _ ⟨(blk_cell BK281.out 0).trans rfl, (blk_cell BK281.out 1).trans rfl, (blk_cell BK281.out 2).trans rfl⟩ (fun hHeld => ?_)
               clear hK K
               refine norm_ (a' := ?_) ?_ ?_
               rotate_left
               ·
                show Act.put _ (some 144) _ = _
                simp only [Act.put, List.setIfInBounds_toArray, List.set_cons_zero, List.set_cons_succ, i64_w, i32_w]
                rfl
               refine pure_ (i := 6) (N := some 138) (v := ?_) (a' := ?_) #[true, true, true, true, true, true, true, false, false, true, false, false] rfl rfl (any_of HT_.out (by kernel_rfl)) (fun _ _ _ h => h) (Or.inl ⟨by rfl, ?_⟩) ?_ ?_
               rotate_left
               ·
                intro w'
                go_simp
                with_reducible rfl
               rotate_left
               ·
                simp only [Act.put, List.setIfInBounds_toArray, List.set_cons_zero, List.set_cons_succ, i64_w, i32_w]
                rfl
               refine pure_ (i := 7) (N := some 145) (v := ?_) (a' := ?_) #[true, true, true, true, true, true, true, true, false, true, false, false] rfl rfl (any_of HT_.out (by kernel_rfl)) (fun _ _ _ h => h) (Or.inl ⟨by rfl, ?_⟩) ?_ ?_
               rotate_left
               ·
                intro w'
                go_simp
                with_reducible rfl
               rotate_left
               ·
                simp only [Act.put, List.setIfInBounds_toArray, List.set_cons_zero, List.set_cons_succ, i64_w, i32_w]
                rfl
               refine pure_ (i := 8) (N := some 146) (v := ?_) (a' := ?_) #[true, true, true, true, true, true, true, true, true, true, false, false] rfl rfl (any_of HT_.out (by kernel_rfl)) (fun _ _ _ h => h) (Or.inl ⟨by rfl, ?_⟩) ?_ ?_
               rotate_left
               ·
                intro w'
                go_simp
                with_reducible rfl
               rotate_left
               ·
                simp only [Act.put, List.setIfInBounds_toArray, List.set_cons_zero, List.set_cons_succ, i64_w, i32_w]
                rfl
               exact norm_ (by simp only [putAll, Act.put, List.setIfInBounds_toArray, List.set_cons_zero, List.set_cons_succ]) (hCont (v306, gb309) _ ⟨hHeld, (by (with_reducible repeat (first | apply Kd.R_alloc | apply Kd.R_drewN | apply Kd.R_drew)); exact Kd.R_mono HO307.out (fun _ hk => hk.2)), (by (with_reducible repeat (first | apply Kd.R_alloc | apply Kd.R_drewN | apply Kd.R_drew)); exact Kd.R_mono HO_282002.out (fun _ hk => hk.2)), (by (with_reducible repeat (first | apply Kd.R_alloc | apply Kd.R_drewN | apply Kd.R_drew)); exact HO_4.out), (by (with_reducible repeat (first | refine blk_drewN ?_ _ | refine blk_drew ?_ | refine blk_alloc ?_ _)); exact BK281.out), (by (with_reducible repeat (first | refine blk_drewN ?_ _ | refine blk_drew ?_ | refine blk_alloc ?_ _)); exact BK309.out), GW309.out, GE309.out, NB281_309.out, NB309_281.out, (by repeat (first | (with_reducible first | exact HB.out | apply below_alloc | apply pw_below_drewN | apply below_drew1 | refine below_set ?_ GE281.out | refine below_set ?_ GE309.out) | exact HB.out))⟩)
             rintro ⟨v306, gb309⟩ w71 ⟨hS_, h0_, h1_, h2_, h3_, h4_, h5_, h6_, h7_, h8_, h9_⟩
             have n0_ : Aside0 (Kd.R k143 143 w71 w.heap.size (fun k_ => some k_ ≠ (.slice Ao8 t275.length co8 : Value).ownBlock) v306 t305) := ⟨h0_⟩
             have n1_ : Aside0 (Kd.R k143 143 w71 w.heap.size (fun k_ => some k_ ≠ (v306 : Value).ownBlock) (.slice Ao8 t275.length co8) t275) := ⟨h1_⟩
             have n2_ : Aside0 (Kd.R k180 180 w71 w.heap.size (fun _ => True) v279 t278) := ⟨h2_⟩
             have n3_ : Aside0 (w71.heap[gb281]? = some (.cells #[.int .i64 t273, .int .i64 t274, .slice Ao8 t275.length co8] 30 (0, 0))) := ⟨h3_⟩
             have n4_ : Aside0 (w71.heap[gb309]? = some (.cells #[.int .i64 0, .int .i64 0, .slice none 0 0] 30 (0, 0))) := ⟨h4_⟩
             have n5_ : Aside0 (w.heap.size ≤ gb309) := ⟨h5_⟩
             have n6_ : Aside0 (w.heap.size ≤ gb309) := ⟨h6_⟩
             have n7_ : Aside0 (gb281 ≠ gb309) := ⟨h7_⟩
             have n8_ : Aside0 (gb309 ≠ gb281) := ⟨h8_⟩
             have n9_ : Aside0 (Below w.heap.size w w71) := ⟨h9_⟩
             clear HO_4
             clear HO_282002
             clear BK281
             clear HB
             clear h0_ h1_ h2_ h3_ h4_ h5_ h6_ h7_ h8_ h9_
             have HO307 := n0_
             have HO_282002 := n1_
             have HO_4 := n2_
             have BK281 := n3_
             have BK309 := n4_
             have GW309 := n5_
             have GE309 := n6_
             have NB281_309 := n7_
             have NB309_281 := n8_
             have HB := n9_
             clear n0_ n1_ n2_ n3_ n4_ n5_ n6_ n7_ n8_ n9_
             have hHeld : w71.cell? ⟨gb281, 0, none⟩ = some (.int .i64 t273) ∧ w71.cell? ⟨gb281, 1, none⟩ = some (.int .i64 t274) ∧ w71.cell? ⟨gb281, 2, none⟩ = some (.slice Ao8 t275.length co8) := hS_
             obtain ⟨Ao74, co74, eo74⟩ := Kd.R_slice HO307.out
             (first | subst eo74 | (injection eo74 with f1_ f2_ f3_; have f4_ := f1_.symm; have f5_ := f3_.symm; clear f1_ f2_ f3_; subst f4_; subst f5_))
             refine norm_ (a' := ?_) ?_ ?_
             rotate_left
             ·
              simp only [putAll, Act.put, List.setIfInBounds_toArray, List.set_cons_zero, List.set_cons_succ]
              rfl
             refine one_ (i := 10) (N := none) #[true, true, true, true, true, true, true, true, true, true, true, false] rfl rfl (one_of HT_.out (by kernel_rfl)) (by decide) (fun K hK => ?_)
             have hs72 : w71.cell? ⟨gb309, 0, none⟩ = some (.int .i64 0) := (blk_cell BK309.out 0).trans rfl
             have hfs72 := blk_frozen BK309.out 0
             have hns72_0 := NB281_309.out
             have hms72_0 := NB309_281.out
             have hs73 : w71.cell? ⟨gb309, 1, none⟩ = some (.int .i64 0) := (blk_cell BK309.out 1).trans rfl
             have hfs73 := blk_frozen BK309.out 1
             have hns73_0 := NB281_309.out
             have hms73_0 := NB309_281.out
             have hs75 : w71.cell? ⟨gb309, 2, none⟩ = some (.slice none 0 0) := (blk_cell BK309.out 2).trans rfl
             have hfs75 := blk_frozen BK309.out 2
             have hns75_0 := NB281_309.out
             have hms75_0 := NB309_281.out
             refine skip_ (w1 := ?_) (by rfl) rfl ?_ ?_
             rotate_left
             ·
              go_simp
              rfl
             refine hK.out _ _ ⟨((cell_far (p := ⟨gb309, _, none⟩) NB281_309.out _).trans (((cell_far (p := ⟨gb309, _, none⟩) NB281_309.out _).trans (((cell_far (p := ⟨gb309, _, none⟩) NB281_309.out _).trans (hHeld.1)))))), ((cell_far (p := ⟨gb309, _, none⟩) NB281_309.out _).trans (((cell_far (p := ⟨gb309, _, none⟩) NB281_309.out _).trans (((cell_far (p := ⟨gb309, _, none⟩) NB281_309.out _).trans (hHeld.2.1)))))), ((cell_far (p := ⟨gb309, _, none⟩) NB281_309.out _).trans (((cell_far (p := ⟨gb309, _, none⟩) NB281_309.out _).trans (((cell_far (p := ⟨gb309, _, none⟩) NB281_309.out _).trans (hHeld.2.2))))))⟩ (fun hHeld => ?_)
             clear hK K
             refine pure_ (i := 11) (N := some 18) (v := ?_) (a' := ?_) #[true, true, true, true, true, true, true, true, true, true, true, true] rfl rfl (any_of HT_.out (by kernel_rfl)) (fun _ _ _ h => h) (Or.inl ⟨by rfl, ?_⟩) ?_ ?_
             rotate_left
             ·
              intro w'
              go_simp
              with_reducible rfl
             rotate_left
             ·
              simp only [Act.put, List.setIfInBounds_toArray, List.set_cons_zero, List.set_cons_succ, i64_w, i32_w]
              rfl
             refine done_ (done_of HT_.out (by kernel_rfl)) ?_
             try go_wp2
             go_loopg [19] kj49 (fun kq v19 w' => ∃ (x19_4 : Int), v19 = .int .i64 x19_4 ∧ Aside0 (laws_FnWindows.l2 kq t278 x5_1 t308 x19_4 t273 t274 t275 t303 t304 t305 = some r) ∧ Aside0 (kq ≤ kj49) ∧ Aside0 (Kd.R k180 180 w' w.heap.size (fun _ => True) v279 t278) ∧ Aside0 (Kd.R k143 143 w' w.heap.size (fun k_ => some k_ ≠ ((.slice Ao74 t305.length co74) : Value).ownBlock) (.slice Ao8 t275.length co8) t275) ∧ Aside0 (Kd.R k143 143 w' w.heap.size (fun k_ => some k_ ≠ ((.slice Ao8 t275.length co8) : Value).ownBlock) (.slice Ao74 t305.length co74) t305) ∧ Aside0 (w'.heap[gb281]? = some (.cells #[.int .i64 t273, .int .i64 t274, (.slice Ao8 t275.length co8)] 30 (0, 0))) ∧ Aside0 (w'.heap[gb309]? = some (.cells #[.int .i64 t303, .int .i64 t304, (.slice Ao74 t305.length co74)] 30 (0, 0))) ∧ Aside0 (Below w.heap.size w w'))
             case atStart => exact ⟨(0), (by first | rfl | (simp; done) | (simp [*]; done)), H', ⟨Nat.le_refl _⟩, ⟨by (with_reducible repeat (first | apply Kd.R_alloc | apply Kd.R_drewN | apply Kd.R_drew)); exact Kd.R_mono (Kd.R_far (p := ⟨gb309, 2, none⟩) (Kd.R_far (p := ⟨gb309, 1, none⟩) (Kd.R_far (p := ⟨gb309, 0, none⟩) (Kd.R_types HO_4.out BK309.out (by decide)) (fun _ hk => hk.2) (.int .i64 t303)) (fun _ hk => hk.2) (.int .i64 t304)) (fun _ hk => hk.2) (.slice Ao74 t305.length co74)) (fun _ hk => trivial)⟩, ⟨by (with_reducible repeat (first | apply Kd.R_alloc | apply Kd.R_drewN | apply Kd.R_drew)); exact Kd.R_mono (Kd.R_far (p := ⟨gb309, 2, none⟩) (Kd.R_far (p := ⟨gb309, 1, none⟩) (Kd.R_far (p := ⟨gb309, 0, none⟩) (Kd.R_types HO_282002.out BK309.out (by decide)) (fun _ hk => hk.2) (.int .i64 t303)) (fun _ hk => hk.2) (.int .i64 t304)) (fun _ hk => hk.2) (.slice Ao74 t305.length co74)) (fun _ hk => hk.1)⟩, ⟨by (with_reducible repeat (first | apply Kd.R_alloc | apply Kd.R_drewN | apply Kd.R_drew)); exact Kd.R_mono (Kd.R_far (p := ⟨gb309, 2, none⟩) (Kd.R_far (p := ⟨gb309, 1, none⟩) (Kd.R_far (p := ⟨gb309, 0, none⟩) (Kd.R_types HO307.out BK309.out (by decide)) (fun _ hk => hk.2) (.int .i64 t303)) (fun _ hk => hk.2) (.int .i64 t304)) (fun _ hk => hk.2) (.slice Ao74 t305.length co74)) (fun _ hk => hk.1)⟩, ⟨by (with_reducible repeat (first | refine blk_drewN ?_ _ | refine blk_drew ?_ | refine blk_alloc ?_ _)); refine blk_far ?_ NB281_309.out _; (with_reducible repeat (first | refine blk_drewN ?_ _ | refine blk_drew ?_ | refine blk_alloc ?_ _)); refine blk_far ?_ NB281_309.out _; (with_reducible repeat (first | refine blk_drewN ?_ _ | refine blk_drew ?_ | refine blk_alloc ?_ _)); refine blk_far ?_ NB281_309.out _; (with_reducible repeat (first | refine blk_drewN ?_ _ | refine blk_drew ?_ | refine blk_alloc ?_ _)); exact BK281.out⟩, ⟨by (with_reducible repeat (first | refine blk_drewN ?_ _ | refine blk_drew ?_ | refine blk_alloc ?_ _)); refine blk_put (cs := #[.int .i64 t303, .int .i64 t304, .slice none 0 0]) ?_ 2 _ rfl; (with_reducible repeat (first | refine blk_drewN ?_ _ | refine blk_drew ?_ | refine blk_alloc ?_ _)); refine blk_put (cs := #[.int .i64 t303, .int .i64 0, .slice none 0 0]) ?_ 1 _ rfl; (with_reducible repeat (first | refine blk_drewN ?_ _ | refine blk_drew ?_ | refine blk_alloc ?_ _)); refine blk_put (cs := #[.int .i64 0, .int .i64 0, .slice none 0 0]) ?_ 0 _ rfl; (with_reducible repeat (first | refine blk_drewN ?_ _ | refine blk_drew ?_ | refine blk_alloc ?_ _)); exact BK309.out⟩, ⟨by repeat (first | (with_reducible first | exact HB.out | apply below_alloc | apply pw_below_drewN | apply below_drew1 | refine below_set ?_ GE281.out | refine below_set ?_ GE309.out) | exact HB.out)⟩⟩
             case round =>
              clear H'
              try clear c2
              try clear p2
              try clear q2
              try clear hx2
              try clear c3
              try clear c4
              try clear p4
              try clear q4
              try clear hx4
              try clear hf4
              try clear c5
              try clear c6
              try clear p6
              try clear c22
              try clear c24
              try clear c24b0
              try clear c24b1
              try clear c25
              try clear c25b0
              try clear c25b1
              try clear c27
              try clear c29
              try clear c29b0
              try clear p29
              try clear q29
              try clear hx29
              try clear c37
              try clear c38
              try clear c38b0
              try clear c39
              try clear c39b0
              try clear c41
              try clear c42
              try clear c43
              try clear c43b0
              try clear c44
              try clear c44b0
              try clear c45
              try clear c45b0
              try clear p46
              try clear q46
              try clear hx46
              try clear hf46
              try clear c53
              try clear c54
              try clear c54b0
              try clear p64
              try clear c65
              try clear hcz14_0
              try clear hcz14_1
              try clear hcz14_2
              try clear hcz19_0
              try clear hcz19_1
              try clear hcz19_2
              try clear hcz20_0
              try clear hcz20_1
              try clear hcz20_2
              try clear hcz26_0
              try clear hcz26_1
              try clear hcz26_2
              try clear hcz33_0
              try clear hcz33_1
              try clear hcz33_2
              try clear hcz35_0
              try clear hcz35_1
              try clear hcz35_2
              try clear hcz40_0
              try clear hcz40_1
              try clear hcz40_2
              try clear hcz41_0
              try clear hcz41_1
              try clear hcz41_2
              try clear hcz51_0
              try clear hcz51_1
              try clear hcz51_2
              try clear hcz57_0
              try clear hcz57_1
              try clear hcz57_2
              try clear hcz61_0
              try clear hcz61_1
              try clear hcz61_2
              try clear hcz7_0
              try clear hcz7_1
              try clear hcz7_2
              try clear hfz14_0
              try clear hfz14_1
              try clear hfz14_2
              try clear hfz19_0
              try clear hfz19_1
              try clear hfz19_2
              try clear hfz20_0
              try clear hfz20_1
              try clear hfz20_2
              try clear hfz26_0
              try clear hfz26_1
              try clear hfz26_2
              try clear hfz33_0
              try clear hfz33_1
              try clear hfz33_2
              try clear hfz35_0
              try clear hfz35_1
              try clear hfz35_2
              try clear hfz40_0
              try clear hfz40_1
              try clear hfz40_2
              try clear hfz41_0
              try clear hfz41_1
              try clear hfz41_2
              try clear hfz51_0
              try clear hfz51_1
              try clear hfz51_2
              try clear hfz57_0
              try clear hfz57_1
              try clear hfz57_2
              try clear hfz61_0
              try clear hfz61_1
              try clear hfz61_2
              try clear hfz7_0
              try clear hfz7_1
              try clear hfz7_2
              try clear hx298_0
              try clear hx46_0
              try clear p2
              try clear p29
              try clear p298
              try clear p46
              try clear p6
              try clear p64
              try clear q29
              try clear q298
              try clear q46
              obtain ⟨x19_4, rfl, HA, HK4, HO_4, HO_282002, HO_310002, BK281, BK309, HB⟩ := hrel
              cases gk with
              | zero => exact absurd HA.out (by simp [laws_FnWindows.l2])
              | succ k4 =>
               have H := HA.out
               clear HA
               simp only [laws_FnWindows.l2] at H
               have HC76 := Aside0.mk H
               clear H
               go_upto_region 28 with (fail)
               go_cut [153] (fun v153 wc => ∃ (kq : Nat) (x153_75 : Bool), v153 = .bool x153_75 ∧ Aside0 (laws_FnWindows.j6 kq t278 x5_1 t308 x19_4 x153_75 t273 t274 t275 t303 t304 t305 = some r) ∧ Aside0 (kq ≤ k4) ∧ Aside0 (Kd.R k180 180 wc w.heap.size (fun _ => True) v279 t278) ∧ Aside0 (Kd.R k143 143 wc w.heap.size (fun k_ => some k_ ≠ ((.slice Ao74 t305.length co74) : Value).ownBlock) (.slice Ao8 t275.length co8) t275) ∧ Aside0 (Kd.R k143 143 wc w.heap.size (fun k_ => some k_ ≠ ((.slice Ao8 t275.length co8) : Value).ownBlock) (.slice Ao74 t305.length co74) t305) ∧ Aside0 (wc.heap[gb281]? = some (.cells #[.int .i64 t273, .int .i64 t274, (.slice Ao8 t275.length co8)] 30 (0, 0))) ∧ Aside0 (wc.heap[gb309]? = some (.cells #[.int .i64 t303, .int .i64 t304, (.slice Ao74 t305.length co74)] 30 (0, 0))) ∧ Aside0 (Below w.heap.size w wc))
               case first =>
                have H := HC76.out
                clear HC76
                by_cases c77 : x19_4 < t273
                ·
                 rw [if_pos c77] at H
                 have c77b0 : decide (x19_4 < t273) = true := decide_eq_true c77
                 clear c77
                 (first | rw [c77b0] | (simp only [i64_w, i32_w]; rw [c77b0]) | skip)
                 have H' := Aside0.mk H
                 clear H
                 have hnb78 := NB281_309.out
                 have hnc78 := NB309_281.out
                 have hcz79_0 : wr.cell? ⟨gb281, 0, none⟩ = some (.int .i64 t273) := (blk_cell BK281.out 0).trans rfl
                 have hcz79_1 : wr.cell? ⟨gb281, 1, none⟩ = some (.int .i64 t274) := (blk_cell BK281.out 1).trans rfl
                 have hcz79_2 : wr.cell? ⟨gb281, 2, none⟩ = some (.slice Ao8 t275.length co8) := (blk_cell BK281.out 2).trans rfl
                 have hfz79_0 := blk_frozen BK281.out 0
                 have hfz79_1 := blk_frozen BK281.out 1
                 have hfz79_2 := blk_frozen BK281.out 2
                 go_wp2
                 go_meet
                 case rel => exact ⟨_, (t308), (by first | rfl | (simp; done) | (simp [*]; done)), H', ⟨by have := HK1.out; have := HK2.out; have := HJ49.out; have := HK4.out; first | omega | exact Nat.le_refl _⟩, ⟨by (with_reducible repeat (first | apply Kd.R_alloc | apply Kd.R_drewN | apply Kd.R_drew)); exact HO_4.out⟩, ⟨by (with_reducible repeat (first | apply Kd.R_alloc | apply Kd.R_drewN | apply Kd.R_drew)); exact HO_282002.out⟩, ⟨by (with_reducible repeat (first | apply Kd.R_alloc | apply Kd.R_drewN | apply Kd.R_drew)); exact HO_310002.out⟩, ⟨by (with_reducible repeat (first | refine blk_drewN ?_ _ | refine blk_drew ?_ | refine blk_alloc ?_ _)); exact BK281.out⟩, ⟨by (with_reducible repeat (first | refine blk_drewN ?_ _ | refine blk_drew ?_ | refine blk_alloc ?_ _)); exact BK309.out⟩, ⟨by repeat (first | (with_reducible first | exact HB.out | apply below_alloc | apply pw_below_drewN | apply below_drew1 | refine below_set ?_ GE281.out | refine below_set ?_ GE309.out) | exact HB.out)⟩⟩
                ·
                 rw [if_neg c77] at H
                 have c77b0 : decide (x19_4 < t273) = false := decide_eq_false c77
                 clear c77
                 (first | rw [c77b0] | (simp only [i64_w, i32_w]; rw [c77b0]) | skip)
                 have H' := Aside0.mk H
                 clear H
                 have hnb80 := NB281_309.out
                 have hnc80 := NB309_281.out
                 have hcz81_0 : wr.cell? ⟨gb281, 0, none⟩ = some (.int .i64 t273) := (blk_cell BK281.out 0).trans rfl
                 have hcz81_1 : wr.cell? ⟨gb281, 1, none⟩ = some (.int .i64 t274) := (blk_cell BK281.out 1).trans rfl
                 have hcz81_2 : wr.cell? ⟨gb281, 2, none⟩ = some (.slice Ao8 t275.length co8) := (blk_cell BK281.out 2).trans rfl
                 have hfz81_0 := blk_frozen BK281.out 0
                 have hfz81_1 := blk_frozen BK281.out 1
                 have hfz81_2 := blk_frozen BK281.out 2
                 go_wp2
                 go_meet
                 case rel => exact ⟨_, (false), (by first | rfl | (simp; done) | (simp [*]; done)), H', ⟨by have := HK1.out; have := HK2.out; have := HJ49.out; have := HK4.out; first | omega | exact Nat.le_refl _⟩, ⟨by (with_reducible repeat (first | apply Kd.R_alloc | apply Kd.R_drewN | apply Kd.R_drew)); exact HO_4.out⟩, ⟨by (with_reducible repeat (first | apply Kd.R_alloc | apply Kd.R_drewN | apply Kd.R_drew)); exact HO_282002.out⟩, ⟨by (with_reducible repeat (first | apply Kd.R_alloc | apply Kd.R_drewN | apply Kd.R_drew)); exact HO_310002.out⟩, ⟨by (with_reducible repeat (first | refine blk_drewN ?_ _ | refine blk_drew ?_ | refine blk_alloc ?_ _)); exact BK281.out⟩, ⟨by (with_reducible repeat (first | refine blk_drewN ?_ _ | refine blk_drew ?_ | refine blk_alloc ?_ _)); exact BK309.out⟩, ⟨by repeat (first | (with_reducible first | exact HB.out | apply below_alloc | apply pw_below_drewN | apply below_drew1 | refine below_set ?_ GE281.out | refine below_set ?_ GE309.out) | exact HB.out)⟩⟩
               case rest =>
                clear HC76
                try clear c2
                try clear p2
                try clear q2
                try clear hx2
                try clear c3
                try clear c4
                try clear p4
                try clear q4
                try clear hx4
                try clear hf4
                try clear c5
                try clear c6
                try clear p6
                try clear c7
                try clear c8
                try clear c22
                try clear c24
                try clear c24b0
                try clear c24b1
                try clear c25
                try clear c25b0
                try clear c25b1
                try clear c27
                try clear c29
                try clear c29b0
                try clear p29
                try clear q29
                try clear hx29
                try clear c37
                try clear c38
                try clear c38b0
                try clear c39
                try clear c39b0
                try clear c41
                try clear c42
                try clear c43
                try clear c43b0
                try clear c44
                try clear c44b0
                try clear c45
                try clear c45b0
                try clear p46
                try clear q46
                try clear hx46
                try clear hf46
                try clear c53
                try clear c54
                try clear c54b0
                try clear p64
                try clear c65
                try clear c77
                try clear c77b0
                try clear c78
                try clear c80
                try clear hcz14_0
                try clear hcz14_1
                try clear hcz14_2
                try clear hcz19_0
                try clear hcz19_1
                try clear hcz19_2
                try clear hcz20_0
                try clear hcz20_1
                try clear hcz20_2
                try clear hcz26_0
                try clear hcz26_1
                try clear hcz26_2
                try clear hcz33_0
                try clear hcz33_1
                try clear hcz33_2
                try clear hcz35_0
                try clear hcz35_1
                try clear hcz35_2
                try clear hcz40_0
                try clear hcz40_1
                try clear hcz40_2
                try clear hcz41_0
                try clear hcz41_1
                try clear hcz41_2
                try clear hcz51_0
                try clear hcz51_1
                try clear hcz51_2
                try clear hcz57_0
                try clear hcz57_1
                try clear hcz57_2
                try clear hcz61_0
                try clear hcz61_1
                try clear hcz61_2
                try clear hcz79_0
                try clear hcz79_1
                try clear hcz79_2
                try clear hcz7_0
                try clear hcz7_1
                try clear hcz7_2
                try clear hcz81_0
                try clear hcz81_1
                try clear hcz81_2
                try clear hfz14_0
                try clear hfz14_1
                try clear hfz14_2
                try clear hfz19_0
                try clear hfz19_1
                try clear hfz19_2
                try clear hfz20_0
                try clear hfz20_1
                try clear hfz20_2
                try clear hfz26_0
                try clear hfz26_1
                try clear hfz26_2
                try clear hfz33_0
                try clear hfz33_1
                try clear hfz33_2
                try clear hfz35_0
                try clear hfz35_1
                try clear hfz35_2
                try clear hfz40_0
                try clear hfz40_1
                try clear hfz40_2
                try clear hfz41_0
                try clear hfz41_1
                try clear hfz41_2
                try clear hfz51_0
                try clear hfz51_1
                try clear hfz51_2
                try clear hfz57_0
                try clear hfz57_1
                try clear hfz57_2
                try clear hfz61_0
                try clear hfz61_1
                try clear hfz61_2
                try clear hfz79_0
                try clear hfz79_1
                try clear hfz79_2
                try clear hfz7_0
                try clear hfz7_1
                try clear hfz7_2
                try clear hfz81_0
                try clear hfz81_1
                try clear hfz81_2
                try clear hx298_0
                try clear hx46_0
                try clear p2
                try clear p29
                try clear p298
                try clear p4
                try clear p46
                try clear p6
                try clear p64
                try clear q2
                try clear q29
                try clear q298
                try clear q4
                try clear q46
                obtain ⟨kq, x153_75, rfl, HA, HJ75, HO_4, HO_282002, HO_310002, BK281, BK309, HB⟩ := hcut
                cases kq with
                | zero => exact absurd HA.out (by simp [laws_FnWindows.j6])
                | succ kj75 =>
                 have H := HA.out
                 clear HA
                 simp only [laws_FnWindows.j6] at H
                 by_cases c82 : x153_75 = true
                 ·
                  subst c82
                  have H1 : ((impl_Owner.f kj75 t273 t274 t275 x19_4).bind fun bt310 => ((impl_Owner.f kj75 t303 t304 t305 x19_4).bind fun bt312 => (if bt310.1 ≥ 0 then (if bt312.1 = bt310.1 then (if bt310.1 < 0 then (laws_FnWindows.j7 kj75 t278 x5_1 t308 x19_4 (decide (bt312.1 > 0)) t273 t274 t275 t303 t304 t305) else (laws_FnWindows.j7 kj75 t278 x5_1 t308 x19_4 false t273 t274 t275 t303 t304 t305)) else (laws_FnWindows.j7 kj75 t278 x5_1 t308 x19_4 true t273 t274 t275 t303 t304 t305)) else (if bt310.1 < 0 then (laws_FnWindows.j7 kj75 t278 x5_1 t308 x19_4 (decide (bt312.1 > 0)) t273 t274 t275 t303 t304 t305) else (laws_FnWindows.j7 kj75 t278 x5_1 t308 x19_4 false t273 t274 t275 t303 t304 t305))))) = some r := by rw [if_pos rfl] at H; exact H
                  clear H
                  have H := H1
                  clear H1
                  replace H := Option.bind_eq_some_iff.mp H
                  obtain ⟨⟨t310, t311⟩, A830, H⟩ := H
                  replace H : ((impl_Owner.f kj75 t303 t304 t305 x19_4).bind fun bt312 => (if t310 ≥ 0 then (if bt312.1 = t310 then (if t310 < 0 then (laws_FnWindows.j7 kj75 t278 x5_1 t308 x19_4 (decide (bt312.1 > 0)) t273 t274 t275 t303 t304 t305) else (laws_FnWindows.j7 kj75 t278 x5_1 t308 x19_4 false t273 t274 t275 t303 t304 t305)) else (laws_FnWindows.j7 kj75 t278 x5_1 t308 x19_4 true t273 t274 t275 t303 t304 t305)) else (if t310 < 0 then (laws_FnWindows.j7 kj75 t278 x5_1 t308 x19_4 (decide (bt312.1 > 0)) t273 t274 t275 t303 t304 t305) else (laws_FnWindows.j7 kj75 t278 x5_1 t308 x19_4 false t273 t274 t275 t303 t304 t305)))) = some r := H
                  have A83 := Aside0.mk A830
                  clear A830
                  replace H := Option.bind_eq_some_iff.mp H
                  obtain ⟨⟨t312, t313⟩, A840, H⟩ := H
                  replace H : (if t310 ≥ 0 then (if t312 = t310 then (if t310 < 0 then (laws_FnWindows.j7 kj75 t278 x5_1 t308 x19_4 (decide (t312 > 0)) t273 t274 t275 t303 t304 t305) else (laws_FnWindows.j7 kj75 t278 x5_1 t308 x19_4 false t273 t274 t275 t303 t304 t305)) else (laws_FnWindows.j7 kj75 t278 x5_1 t308 x19_4 true t273 t274 t275 t303 t304 t305)) else (if t310 < 0 then (laws_FnWindows.j7 kj75 t278 x5_1 t308 x19_4 (decide (t312 > 0)) t273 t274 t275 t303 t304 t305) else (laws_FnWindows.j7 kj75 t278 x5_1 t308 x19_4 false t273 t274 t275 t303 t304 t305))) = some r := H
                  have A84 := Aside0.mk A840
                  clear A840
                  have HC85 := Aside0.mk H
                  clear H
                  have hnb86 := NB281_309.out
                  have hnc86 := NB309_281.out
                  have hcz87_0 : wc.cell? ⟨gb281, 0, none⟩ = some (.int .i64 t273) := (blk_cell BK281.out 0).trans rfl
                  have hcz87_1 : wc.cell? ⟨gb281, 1, none⟩ = some (.int .i64 t274) := (blk_cell BK281.out 1).trans rfl
                  have hcz87_2 : wc.cell? ⟨gb281, 2, none⟩ = some (.slice Ao8 t275.length co8) := (blk_cell BK281.out 2).trans rfl
                  have hfz87_0 := blk_frozen BK281.out 0
                  have hfz87_1 := blk_frozen BK281.out 1
                  have hfz87_2 := blk_frozen BK281.out 2
                  go_upto_region 32 with (first | ((with_reducible refine gate_callee (f := 42) rfl ?_); refine goesL_ (some 159) rfl rfl Try.func42 (by kernel_rfl) rfl #[.agg #[.int .i64 t273, .int .i64 t274, .slice Ao8 t275.length co8], .int .i64 x19_4] rfl (by (try simp only [List.map_toArray, List.map_cons, List.map_nil]); first | done | rfl | (simp only [List.length_drop, List.length_take]; rfl)) ?_; (with_reducible refine (impl_Owner.calls kj75 t273 t274 _ _ t275 x19_4 t310 t311 _ ?side1 ?side2 A83.out).mono ?_); (case side1 => repeat (first | exact (Kd.R_reads' HO_282002.out).2.2 | (with_reducible refine Kd.C_alloc ?_ _) | (with_reducible refine Kd.C_drewN ?_ _) | (with_reducible refine Kd.C_drew ?_))); (case side2 => exact (Kd.R_reads' HO_282002.out).2.1); rintro e w88 ⟨rfl, hb⟩; refine ⟨_, rfl, ?_⟩; have n0_ := Aside0.mk (Kd.R_below (by (with_reducible repeat (first | apply Kd.R_alloc | apply Kd.R_drewN | apply Kd.R_drew)); exact HO_4.out) hb); have n1_ := Aside0.mk (Kd.R_below (by (with_reducible repeat (first | apply Kd.R_alloc | apply Kd.R_drewN | apply Kd.R_drew)); exact HO_282002.out) hb); have n2_ := Aside0.mk (Kd.R_below (by (with_reducible repeat (first | apply Kd.R_alloc | apply Kd.R_drewN | apply Kd.R_drew)); exact HO_310002.out) hb); have n3_ := Aside0.mk (blk_below (g := gb281) (o := .cells #[.int .i64 t273, .int .i64 t274, .slice Ao8 t275.length co8] 30 (0, 0)) (by (with_reducible repeat (first | refine blk_drewN ?_ _ | refine blk_drew ?_ | refine blk_alloc ?_ _)); exact BK281.out) hb); have n4_ := Aside0.mk (blk_below (g := gb309) (o := .cells #[.int .i64 t303, .int .i64 t304, .slice Ao74 t305.length co74] 30 (0, 0)) (by (with_reducible repeat (first | refine blk_drewN ?_ _ | refine blk_drew ?_ | refine blk_alloc ?_ _)); exact BK309.out) hb); have n5_ := Aside0.mk (below_step (by repeat (first | (with_reducible first | exact HB.out | apply below_alloc | apply pw_below_drewN | apply below_drew1 | refine below_set ?_ GE281.out | refine below_set ?_ GE309.out) | exact HB.out)) hb); clear HO_4; clear HO_282002; clear HO_310002; clear BK281; clear BK309; clear HB; have HO_4 := n0_; have HO_282002 := n1_; have HO_310002 := n2_; have BK281 := n3_; have BK309 := n4_; have HB := n5_; clear n0_ n1_ n2_ n3_ n4_ n5_; (try clear hb); (try clear hb2); (try clear hk); (try clear hi); have hcz89_0 : w88.cell? ⟨gb309, 0, none⟩ = some (.int .i64 t303) := (blk_cell BK309.out 0).trans rfl; have hcz89_1 : w88.cell? ⟨gb309, 1, none⟩ = some (.int .i64 t304) := (blk_cell BK309.out 1).trans rfl; have hcz89_2 : w88.cell? ⟨gb309, 2, none⟩ = some (.slice Ao74 t305.length co74) := (blk_cell BK309.out 2).trans rfl; have hfz89_0 := blk_frozen BK309.out 0; have hfz89_1 := blk_frozen BK309.out 1; have hfz89_2 := blk_frozen BK309.out 2) | ((with_reducible refine gate_callee (f := 42) rfl ?_); refine goesL_ (some 165) rfl rfl Try.func42 (by kernel_rfl) rfl #[.agg #[.int .i64 t303, .int .i64 t304, .slice Ao74 t305.length co74], .int .i64 x19_4] rfl (by (try simp only [List.map_toArray, List.map_cons, List.map_nil]); first | done | rfl | (simp only [List.length_drop, List.length_take]; rfl)) ?_; (with_reducible refine (impl_Owner.calls kj75 t303 t304 _ _ t305 x19_4 t312 t313 _ ?side1 ?side2 A84.out).mono ?_); (case side1 => repeat (first | exact (Kd.R_reads' HO_310002.out).2.2 | (with_reducible refine Kd.C_alloc ?_ _) | (with_reducible refine Kd.C_drewN ?_ _) | (with_reducible refine Kd.C_drew ?_))); (case side2 => exact (Kd.R_reads' HO_310002.out).2.1); rintro e w90 ⟨rfl, hb⟩; refine ⟨_, rfl, ?_⟩; have n0_ := Aside0.mk (Kd.R_below (by (with_reducible repeat (first | apply Kd.R_alloc | apply Kd.R_drewN | apply Kd.R_drew)); exact HO_4.out) hb); have n1_ := Aside0.mk (Kd.R_below (by (with_reducible repeat (first | apply Kd.R_alloc | apply Kd.R_drewN | apply Kd.R_drew)); exact HO_282002.out) hb); have n2_ := Aside0.mk (Kd.R_below (by (with_reducible repeat (first | apply Kd.R_alloc | apply Kd.R_drewN | apply Kd.R_drew)); exact HO_310002.out) hb); have n3_ := Aside0.mk (blk_below (g := gb281) (o := .cells #[.int .i64 t273, .int .i64 t274, .slice Ao8 t275.length co8] 30 (0, 0)) (by (with_reducible repeat (first | refine blk_drewN ?_ _ | refine blk_drew ?_ | refine blk_alloc ?_ _)); exact BK281.out) hb); have n4_ := Aside0.mk (blk_below (g := gb309) (o := .cells #[.int .i64 t303, .int .i64 t304, .slice Ao74 t305.length co74] 30 (0, 0)) (by (with_reducible repeat (first | refine blk_drewN ?_ _ | refine blk_drew ?_ | refine blk_alloc ?_ _)); exact BK309.out) hb); have n5_ := Aside0.mk (below_step (by repeat (first | (with_reducible first | exact HB.out | apply below_alloc | apply pw_below_drewN | apply below_drew1 | refine below_set ?_ GE281.out | refine below_set ?_ GE309.out) | exact HB.out)) hb); clear HO_4; clear HO_282002; clear HO_310002; clear BK281; clear BK309; clear HB; have HO_4 := n0_; have HO_282002 := n1_; have HO_310002 := n2_; have BK281 := n3_; have BK309 := n4_; have HB := n5_; clear n0_ n1_ n2_ n3_ n4_ n5_; (try clear hb); (try clear hb2); (try clear hk); (try clear hi)))
                  (try simp only [Act.put, List.setIfInBounds_toArray, List.set_cons_zero, List.set_cons_succ])
                  go_cut [182] (fun v182 wc => ∃ (kq : Nat) (x182_84 : Bool), v182 = .bool x182_84 ∧ Aside0 (laws_FnWindows.j7 kq t278 x5_1 t308 x19_4 x182_84 t273 t274 t275 t303 t304 t305 = some r) ∧ Aside0 (kq ≤ kj75) ∧ Aside0 (Kd.R k180 180 wc w.heap.size (fun _ => True) v279 t278) ∧ Aside0 (Kd.R k143 143 wc w.heap.size (fun k_ => some k_ ≠ ((.slice Ao74 t305.length co74) : Value).ownBlock) (.slice Ao8 t275.length co8) t275) ∧ Aside0 (Kd.R k143 143 wc w.heap.size (fun k_ => some k_ ≠ ((.slice Ao8 t275.length co8) : Value).ownBlock) (.slice Ao74 t305.length co74) t305) ∧ Aside0 (wc.heap[gb281]? = some (.cells #[.int .i64 t273, .int .i64 t274, (.slice Ao8 t275.length co8)] 30 (0, 0))) ∧ Aside0 (wc.heap[gb309]? = some (.cells #[.int .i64 t303, .int .i64 t304, (.slice Ao74 t305.length co74)] 30 (0, 0))) ∧ Aside0 (Below w.heap.size w wc))
                  case first =>
                   have H := HC85.out
                   clear HC85
                   by_cases c91 : t310 ≥ 0
                   ·
                    rw [if_pos c91] at H
                    have c91b0 : decide (0 ≤ t310) = true := decide_eq_true c91
                    clear c91
                    (first | rw [c91b0] | (simp only [i64_w, i32_w]; rw [c91b0]) | skip)
                    by_cases c92 : t312 = t310
                    ·
                     rw [if_pos c92] at H
                     have c92b0 : (t312 == t310) = true := beq_iff_eq.mpr c92
                     have c92b1 : (t312 != t310) = false := bne_eq_false_iff_eq.mpr c92
                     clear c92
                     by_cases c93 : t310 < 0
                     ·
                      rw [if_pos c93] at H
                      have c93b0 : decide (t310 < 0) = true := decide_eq_true c93
                      clear c93
                      have H' := Aside0.mk H
                      clear H
                      go_wp2
                      go_meet
                      case rel => exact ⟨_, (decide (t312 > 0)), (by first | rfl | (simp; done) | (simp [*]; done)), H', ⟨by have := HK1.out; have := HK2.out; have := HJ49.out; have := HK4.out; have := HJ75.out; first | omega | exact Nat.le_refl _⟩, ⟨by (with_reducible repeat (first | apply Kd.R_alloc | apply Kd.R_drewN | apply Kd.R_drew)); exact HO_4.out⟩, ⟨by (with_reducible repeat (first | apply Kd.R_alloc | apply Kd.R_drewN | apply Kd.R_drew)); exact HO_282002.out⟩, ⟨by (with_reducible repeat (first | apply Kd.R_alloc | apply Kd.R_drewN | apply Kd.R_drew)); exact HO_310002.out⟩, ⟨by (with_reducible repeat (first | refine blk_drewN ?_ _ | refine blk_drew ?_ | refine blk_alloc ?_ _)); exact BK281.out⟩, ⟨by (with_reducible repeat (first | refine blk_drewN ?_ _ | refine blk_drew ?_ | refine blk_alloc ?_ _)); exact BK309.out⟩, ⟨by repeat (first | (with_reducible first | exact HB.out | apply below_alloc | apply pw_below_drewN | apply below_drew1 | refine below_set ?_ GE281.out | refine below_set ?_ GE309.out) | exact HB.out)⟩⟩
                     ·
                      rw [if_neg c93] at H
                      have c93b0 : decide (t310 < 0) = false := decide_eq_false c93
                      clear c93
                      have H' := Aside0.mk H
                      clear H
                      go_wp2
                      go_meet
                      case rel => exact ⟨_, (false), (by first | rfl | (simp; done) | (simp [*]; done)), H', ⟨by have := HK1.out; have := HK2.out; have := HJ49.out; have := HK4.out; have := HJ75.out; first | omega | exact Nat.le_refl _⟩, ⟨by (with_reducible repeat (first | apply Kd.R_alloc | apply Kd.R_drewN | apply Kd.R_drew)); exact HO_4.out⟩, ⟨by (with_reducible repeat (first | apply Kd.R_alloc | apply Kd.R_drewN | apply Kd.R_drew)); exact HO_282002.out⟩, ⟨by (with_reducible repeat (first | apply Kd.R_alloc | apply Kd.R_drewN | apply Kd.R_drew)); exact HO_310002.out⟩, ⟨by (with_reducible repeat (first | refine blk_drewN ?_ _ | refine blk_drew ?_ | refine blk_alloc ?_ _)); exact BK281.out⟩, ⟨by (with_reducible repeat (first | refine blk_drewN ?_ _ | refine blk_drew ?_ | refine blk_alloc ?_ _)); exact BK309.out⟩, ⟨by repeat (first | (with_reducible first | exact HB.out | apply below_alloc | apply pw_below_drewN | apply below_drew1 | refine below_set ?_ GE281.out | refine below_set ?_ GE309.out) | exact HB.out)⟩⟩
                    ·
                     rw [if_neg c92] at H
                     have c92b0 : (t312 == t310) = false := beq_eq_false_iff_ne.mpr c92
                     have c92b1 : (t312 != t310) = true := bne_iff_ne.mpr c92
                     have H' := Aside0.mk H
                     clear H
                     go_wp2
                     go_meet
                     case rel => exact ⟨_, (true), (by first | rfl | (simp; done) | (simp [*]; done)), H', ⟨by have := HK1.out; have := HK2.out; have := HJ49.out; have := HK4.out; have := HJ75.out; first | omega | exact Nat.le_refl _⟩, ⟨by (with_reducible repeat (first | apply Kd.R_alloc | apply Kd.R_drewN | apply Kd.R_drew)); exact HO_4.out⟩, ⟨by (with_reducible repeat (first | apply Kd.R_alloc | apply Kd.R_drewN | apply Kd.R_drew)); exact HO_282002.out⟩, ⟨by (with_reducible repeat (first | apply Kd.R_alloc | apply Kd.R_drewN | apply Kd.R_drew)); exact HO_310002.out⟩, ⟨by (with_reducible repeat (first | refine blk_drewN ?_ _ | refine blk_drew ?_ | refine blk_alloc ?_ _)); exact BK281.out⟩, ⟨by (with_reducible repeat (first | refine blk_drewN ?_ _ | refine blk_drew ?_ | refine blk_alloc ?_ _)); exact BK309.out⟩, ⟨by repeat (first | (with_reducible first | exact HB.out | apply below_alloc | apply pw_below_drewN | apply below_drew1 | refine below_set ?_ GE281.out | refine below_set ?_ GE309.out) | exact HB.out)⟩⟩
                   ·
                    rw [if_neg c91] at H
                    have c91b0 : decide (0 ≤ t310) = false := decide_eq_false c91
                    clear c91
                    (first | rw [c91b0] | (simp only [i64_w, i32_w]; rw [c91b0]) | skip)
                    by_cases c94 : t310 < 0
                    ·
                     rw [if_pos c94] at H
                     have c94b0 : decide (t310 < 0) = true := decide_eq_true c94
                     clear c94
                     have H' := Aside0.mk H
                     clear H
                     go_wp2
                     go_meet
                     case rel => exact ⟨_, (decide (t312 > 0)), (by first | rfl | (simp; done) | (simp [*]; done)), H', ⟨by have := HK1.out; have := HK2.out; have := HJ49.out; have := HK4.out; have := HJ75.out; first | omega | exact Nat.le_refl _⟩, ⟨by (with_reducible repeat (first | apply Kd.R_alloc | apply Kd.R_drewN | apply Kd.R_drew)); exact HO_4.out⟩, ⟨by (with_reducible repeat (first | apply Kd.R_alloc | apply Kd.R_drewN | apply Kd.R_drew)); exact HO_282002.out⟩, ⟨by (with_reducible repeat (first | apply Kd.R_alloc | apply Kd.R_drewN | apply Kd.R_drew)); exact HO_310002.out⟩, ⟨by (with_reducible repeat (first | refine blk_drewN ?_ _ | refine blk_drew ?_ | refine blk_alloc ?_ _)); exact BK281.out⟩, ⟨by (with_reducible repeat (first | refine blk_drewN ?_ _ | refine blk_drew ?_ | refine blk_alloc ?_ _)); exact BK309.out⟩, ⟨by repeat (first | (with_reducible first | exact HB.out | apply below_alloc | apply pw_below_drewN | apply below_drew1 | refine below_set ?_ GE281.out | refine below_set ?_ GE309.out) | exact HB.out)⟩⟩
                    ·
                     rw [if_neg c94] at H
                     have c94b0 : decide (t310 < 0) = false := decide_eq_false c94
                     clear c94
                     have H' := Aside0.mk H
                     clear H
                     go_wp2
                     go_meet
                     case rel => exact ⟨_, (false), (by first | rfl | (simp; done) | (simp [*]; done)), H', ⟨by have := HK1.out; have := HK2.out; have := HJ49.out; have := HK4.out; have := HJ75.out; first | omega | exact Nat.le_refl _⟩, ⟨by (with_reducible repeat (first | apply Kd.R_alloc | apply Kd.R_drewN | apply Kd.R_drew)); exact HO_4.out⟩, ⟨by (with_reducible repeat (first | apply Kd.R_alloc | apply Kd.R_drewN | apply Kd.R_drew)); exact HO_282002.out⟩, ⟨by (with_reducible repeat (first | apply Kd.R_alloc | apply Kd.R_drewN | apply Kd.R_drew)); exact HO_310002.out⟩, ⟨by (with_reducible repeat (first | refine blk_drewN ?_ _ | refine blk_drew ?_ | refine blk_alloc ?_ _)); exact BK281.out⟩, ⟨by (with_reducible repeat (first | refine blk_drewN ?_ _ | refine blk_drew ?_ | refine blk_alloc ?_ _)); exact BK309.out⟩, ⟨by repeat (first | (with_reducible first | exact HB.out | apply below_alloc | apply pw_below_drewN | apply below_drew1 | refine below_set ?_ GE281.out | refine below_set ?_ GE309.out) | exact HB.out)⟩⟩
                  case rest =>
                   clear HC85
                   try clear c2
                   try clear p2
                   try clear q2
                   try clear hx2
                   try clear c3
                   try clear c4
                   try clear p4
                   try clear q4
                   try clear hx4
                   try clear hf4
                   try clear c5
                   try clear c6
                   try clear p6
                   try clear c7
                   try clear c8
                   try clear c9
                   try clear c22
                   try clear c24
                   try clear c24b0
                   try clear c24b1
                   try clear c25
                   try clear c25b0
                   try clear c25b1
                   try clear c27
                   try clear c29
                   try clear c29b0
                   try clear p29
                   try clear q29
                   try clear hx29
                   try clear c37
                   try clear c38
                   try clear c38b0
                   try clear c39
                   try clear c39b0
                   try clear c41
                   try clear c42
                   try clear c43
                   try clear c43b0
                   try clear c44
                   try clear c44b0
                   try clear c45
                   try clear c45b0
                   try clear p46
                   try clear q46
                   try clear hx46
                   try clear hf46
                   try clear c53
                   try clear c54
                   try clear c54b0
                   try clear p64
                   try clear c65
                   try clear c77
                   try clear c77b0
                   try clear c78
                   try clear c80
                   try clear c82
                   try clear c86
                   try clear c91
                   try clear c91b0
                   try clear c92
                   try clear c92b0
                   try clear c92b1
                   try clear c93
                   try clear c93b0
                   try clear c94
                   try clear c94b0
                   try clear hcz14_0
                   try clear hcz14_1
                   try clear hcz14_2
                   try clear hcz19_0
                   try clear hcz19_1
                   try clear hcz19_2
                   try clear hcz20_0
                   try clear hcz20_1
                   try clear hcz20_2
                   try clear hcz26_0
                   try clear hcz26_1
                   try clear hcz26_2
                   try clear hcz33_0
                   try clear hcz33_1
                   try clear hcz33_2
                   try clear hcz35_0
                   try clear hcz35_1
                   try clear hcz35_2
                   try clear hcz40_0
                   try clear hcz40_1
                   try clear hcz40_2
                   try clear hcz41_0
                   try clear hcz41_1
                   try clear hcz41_2
                   try clear hcz51_0
                   try clear hcz51_1
                   try clear hcz51_2
                   try clear hcz57_0
                   try clear hcz57_1
                   try clear hcz57_2
                   try clear hcz61_0
                   try clear hcz61_1
                   try clear hcz61_2
                   try clear hcz79_0
                   try clear hcz79_1
                   try clear hcz79_2
                   try clear hcz7_0
                   try clear hcz7_1
                   try clear hcz7_2
                   try clear hcz81_0
                   try clear hcz81_1
                   try clear hcz81_2
                   try clear hcz87_0
                   try clear hcz87_1
                   try clear hcz87_2
                   try clear hcz89_0
                   try clear hcz89_1
                   try clear hcz89_2
                   try clear hfz14_0
                   try clear hfz14_1
                   try clear hfz14_2
                   try clear hfz19_0
                   try clear hfz19_1
                   try clear hfz19_2
                   try clear hfz20_0
                   try clear hfz20_1
                   try clear hfz20_2
                   try clear hfz26_0
                   try clear hfz26_1
                   try clear hfz26_2
                   try clear hfz33_0
                   try clear hfz33_1
                   try clear hfz33_2
                   try clear hfz35_0
                   try clear hfz35_1
                   try clear hfz35_2
                   try clear hfz40_0
                   try clear hfz40_1
                   try clear hfz40_2
                   try clear hfz41_0
                   try clear hfz41_1
                   try clear hfz41_2
                   try clear hfz51_0
                   try clear hfz51_1
                   try clear hfz51_2
                   try clear hfz57_0
                   try clear hfz57_1
                   try clear hfz57_2
                   try clear hfz61_0
                   try clear hfz61_1
                   try clear hfz61_2
                   try clear hfz79_0
                   try clear hfz79_1
                   try clear hfz79_2
                   try clear hfz7_0
                   try clear hfz7_1
                   try clear hfz7_2
                   try clear hfz81_0
                   try clear hfz81_1
                   try clear hfz81_2
                   try clear hfz87_0
                   try clear hfz87_1
                   try clear hfz87_2
                   try clear hfz89_0
                   try clear hfz89_1
                   try clear hfz89_2
                   try clear hx298_0
                   try clear hx46_0
                   try clear p2
                   try clear p29
                   try clear p298
                   try clear p4
                   try clear p46
                   try clear p6
                   try clear p64
                   try clear q2
                   try clear q29
                   try clear q298
                   try clear q4
                   try clear q46
                   obtain ⟨kq, x182_84, rfl, HA, HJ84, HO_4, HO_282002, HO_310002, BK281, BK309, HB⟩ := hcut
                   cases kq with
                   | zero => exact absurd HA.out (by simp [laws_FnWindows.j7])
                   | succ kj84 =>
                    have H := HA.out
                    clear HA
                    simp only [laws_FnWindows.j7] at H
                    by_cases c95 : x182_84 = true
                    ·
                     subst c95
                     have H1 : (some false) = some r := by rw [if_pos rfl] at H; exact H
                     clear H
                     have H := H1
                     clear H1
                     obtain rfl := Option.some.inj H
                     go_wp2
                     go_ret
                     exact ⟨by first | rfl | (simp [errW_none, errW_some] <;> rfl) | (simp [*, errW_none, errW_some] <;> rfl), by repeat (first | (with_reducible first | exact HB.out | apply below_alloc | apply pw_below_drewN | apply below_drew1 | refine below_set ?_ GE281.out | refine below_set ?_ GE309.out) | exact HB.out)⟩
                    ·
                     replace c95 := Bool.eq_false_iff.mpr c95
                     subst c95
                     have H1 : (laws_FnWindows.l2 kj84 t278 x5_1 t308 (wrap64 (x19_4 + 1)) t273 t274 t275 t303 t304 t305) = some r := by rw [if_neg (show ¬ (false = true) by decide)] at H; exact H
                     clear H
                     have H := H1
                     clear H1
                     have H' := Aside0.mk H
                     clear H
                     go_wp2
                     go_roundg kj84
                     case measure => have := HK1.out; have := HK2.out; have := HJ49.out; have := HK4.out; have := HJ75.out; have := HJ84.out; omega
                     case rel => exact ⟨(wrap64 (x19_4 + 1)), (by first | rfl | (simp; done) | (simp [*]; done)), H', ⟨by have := HK1.out; have := HK2.out; have := HJ49.out; have := HK4.out; have := HJ75.out; have := HJ84.out; omega⟩, ⟨by (with_reducible repeat (first | apply Kd.R_alloc | apply Kd.R_drewN | apply Kd.R_drew)); exact HO_4.out⟩, ⟨by (with_reducible repeat (first | apply Kd.R_alloc | apply Kd.R_drewN | apply Kd.R_drew)); exact HO_282002.out⟩, ⟨by (with_reducible repeat (first | apply Kd.R_alloc | apply Kd.R_drewN | apply Kd.R_drew)); exact HO_310002.out⟩, ⟨by (with_reducible repeat (first | refine blk_drewN ?_ _ | refine blk_drew ?_ | refine blk_alloc ?_ _)); exact BK281.out⟩, ⟨by (with_reducible repeat (first | refine blk_drewN ?_ _ | refine blk_drew ?_ | refine blk_alloc ?_ _)); exact BK309.out⟩, ⟨by repeat (first | (with_reducible first | exact HB.out | apply below_alloc | apply pw_below_drewN | apply below_drew1 | refine below_set ?_ GE281.out | refine below_set ?_ GE309.out) | exact HB.out)⟩⟩
                 ·
                  replace c82 := Bool.eq_false_iff.mpr c82
                  subst c82
                  have H1 : ((impl_RunJobs.f kj75 t273 t274 t275 t278 t273).bind fun bt314 => ((impl_RunJobs.f kj75 t273 t274 t275 ([] : List (S180)) t273).bind fun bt319 => (if bt314.2.2 = true then (if bt319.2.2 = true then (if (bt314.1.length : Int) = (t278.length : Int) then (if bt314.2.1 ≥ 0 then (if bt314.2.1 ≤ x5_1 then (if (bt319.1.length : Int) = 0 then (some (bt319.2.1 == x5_1)) else (some false)) else (some false)) else (some false)) else (some false)) else (some false)) else (some false)))) = some r := by rw [if_neg (show ¬ (false = true) by decide)] at H; exact H
                  clear H
                  have H := H1
                  clear H1
                  replace H := Option.bind_eq_some_iff.mp H
                  obtain ⟨⟨t314, t317, t318⟩, A960, H⟩ := H
                  replace H : ((impl_RunJobs.f kj75 t273 t274 t275 ([] : List (S180)) t273).bind fun bt319 => (if t318 = true then (if bt319.2.2 = true then (if (t314.length : Int) = (t278.length : Int) then (if t317 ≥ 0 then (if t317 ≤ x5_1 then (if (bt319.1.length : Int) = 0 then (some (bt319.2.1 == x5_1)) else (some false)) else (some false)) else (some false)) else (some false)) else (some false)) else (some false))) = some r := H
                  have A96 := Aside0.mk A960
                  clear A960
                  replace H := Option.bind_eq_some_iff.mp H
                  obtain ⟨⟨t319, t322, t323⟩, A970, H⟩ := H
                  replace H : (if t318 = true then (if t323 = true then (if (t314.length : Int) = (t278.length : Int) then (if t317 ≥ 0 then (if t317 ≤ x5_1 then (if (t319.length : Int) = 0 then (some (t322 == x5_1)) else (some false)) else (some false)) else (some false)) else (some false)) else (some false)) else (some false)) = some r := H
                  have A97 := Aside0.mk A970
                  clear A970
                  by_cases c98 : t318 = true
                  ·
                   subst c98
                   have H1 : (if t323 = true then (if (t314.length : Int) = (t278.length : Int) then (if t317 ≥ 0 then (if t317 ≤ x5_1 then (if (t319.length : Int) = 0 then (some (t322 == x5_1)) else (some false)) else (some false)) else (some false)) else (some false)) else (some false)) = some r := by rw [if_pos rfl] at H; exact H
                   clear H
                   have H := H1
                   clear H1
                   by_cases c99 : t323 = true
                   ·
                    subst c99
                    have H1 : (if (t314.length : Int) = (t278.length : Int) then (if t317 ≥ 0 then (if t317 ≤ x5_1 then (if (t319.length : Int) = 0 then (some (t322 == x5_1)) else (some false)) else (some false)) else (some false)) else (some false)) = some r := by rw [if_pos rfl] at H; exact H
                    clear H
                    have H := H1
                    clear H1
                    by_cases c100 : (t314.length : Int) = (t278.length : Int)
                    ·
                     rw [if_pos c100] at H
                     have c100b0 : ((t314.length : Int) == (t278.length : Int)) = true := beq_iff_eq.mpr c100
                     have c100b1 : ((t314.length : Int) != (t278.length : Int)) = false := bne_eq_false_iff_eq.mpr c100
                     have c100b2 : (t314.length == t278.length) = true := by first | simpa using c100 | (simp at c100 ⊢; omega)
                     clear c100
                     by_cases c101 : t317 ≥ 0
                     ·
                      rw [if_pos c101] at H
                      have c101b0 : decide (0 ≤ t317) = true := decide_eq_true c101
                      clear c101
                      by_cases c102 : t317 ≤ x5_1
                      ·
                       rw [if_pos c102] at H
                       have c102b0 : decide (t317 ≤ x5_1) = true := decide_eq_true c102
                       clear c102
                       by_cases c103 : (t319.length : Int) = 0
                       ·
                        rw [if_pos c103] at H
                        have c103b0 : ((t319.length : Int) == 0) = true := beq_iff_eq.mpr c103
                        have c103b1 : ((t319.length : Int) != 0) = false := bne_eq_false_iff_eq.mpr c103
                        clear c103
                        obtain rfl := Option.some.inj H
                        have hnb104 := NB281_309.out
                        have hnc104 := NB309_281.out
                        have hcz105_0 : wc.cell? ⟨gb281, 0, none⟩ = some (.int .i64 t273) := (blk_cell BK281.out 0).trans rfl
                        have hcz105_1 : wc.cell? ⟨gb281, 1, none⟩ = some (.int .i64 t274) := (blk_cell BK281.out 1).trans rfl
                        have hcz105_2 : wc.cell? ⟨gb281, 2, none⟩ = some (.slice Ao8 t275.length co8) := (blk_cell BK281.out 2).trans rfl
                        have hfz105_0 := blk_frozen BK281.out 0
                        have hfz105_1 := blk_frozen BK281.out 1
                        have hfz105_2 := blk_frozen BK281.out 2
                        obtain ⟨Ao106, co106, eo106⟩ := Kd.R_slice HO_4.out
                        subst eo106
                        go_wp2_with (first | ((with_reducible refine gate_callee (f := 45) rfl ?_); refine goesL_ (some 188) rfl rfl Try.func45 (by kernel_rfl) rfl #[.agg #[.int .i64 t273, .int .i64 t274, .slice Ao8 t275.length co8], .slice Ao106 t278.length co106, .int .i64 t273] rfl (by (try simp only [List.map_toArray, List.map_cons, List.map_nil]); first | done | rfl | (simp only [List.length_drop, List.length_take]; rfl)) ?_; (with_reducible refine (impl_RunJobs.calls kj75 t273 t274 _ _ t275 _ _ t278 t273 t314 t317 true _ ?side1 ?side2 ?side3 ?side4 A96.out).mono ?_); (case side1 => repeat (first | exact (Kd.R_reads' HO_282002.out).2.2 | (with_reducible refine Kd.C_alloc ?_ _) | (with_reducible refine Kd.C_drewN ?_ _) | (with_reducible refine Kd.C_drew ?_))); (case side2 => exact (Kd.R_reads' HO_282002.out).2.1); (case side3 => repeat (first | exact (Kd.R_reads' HO_4.out).2.2 | (with_reducible refine Kd.C_alloc ?_ _) | (with_reducible refine Kd.C_drewN ?_ _) | (with_reducible refine Kd.C_drew ?_))); (case side4 => exact (Kd.R_reads' HO_4.out).2.1); rintro e w107 ⟨v315, rfl, ho0, hb⟩; refine ⟨_, rfl, ?_⟩; have n0_ := Aside0.mk (Kd.R_below (by (with_reducible repeat (first | apply Kd.R_alloc | apply Kd.R_drewN | apply Kd.R_drew)); exact HO_4.out) hb); have n1_ := Aside0.mk (Kd.R_below (by (with_reducible repeat (first | apply Kd.R_alloc | apply Kd.R_drewN | apply Kd.R_drew)); exact HO_282002.out) hb); have n2_ := Aside0.mk (Kd.R_below (by (with_reducible repeat (first | apply Kd.R_alloc | apply Kd.R_drewN | apply Kd.R_drew)); exact HO_310002.out) hb); have n3_ := Aside0.mk (Kd.R_lower ho0 (below_size (by repeat (first | (with_reducible first | exact HB.out | apply below_alloc | apply pw_below_drewN | apply below_drew1 | refine below_set ?_ GE281.out | refine below_set ?_ GE309.out) | exact HB.out)))); have n4_ := Aside0.mk (blk_below (g := gb281) (o := .cells #[.int .i64 t273, .int .i64 t274, .slice Ao8 t275.length co8] 30 (0, 0)) (by (with_reducible repeat (first | refine blk_drewN ?_ _ | refine blk_drew ?_ | refine blk_alloc ?_ _)); exact BK281.out) hb); have n5_ := Aside0.mk (blk_below (g := gb309) (o := .cells #[.int .i64 t303, .int .i64 t304, .slice Ao74 t305.length co74] 30 (0, 0)) (by (with_reducible repeat (first | refine blk_drewN ?_ _ | refine blk_drew ?_ | refine blk_alloc ?_ _)); exact BK309.out) hb); have n6_ := Aside0.mk (below_step (by repeat (first | (with_reducible first | exact HB.out | apply below_alloc | apply pw_below_drewN | apply below_drew1 | refine below_set ?_ GE281.out | refine below_set ?_ GE309.out) | exact HB.out)) hb); clear HO_4; clear HO_282002; clear HO_310002; clear BK281; clear BK309; clear HB; have HO_4 := n0_; have HO_282002 := n1_; have HO_310002 := n2_; have HO316 := n3_; have BK281 := n4_; have BK309 := n5_; have HB := n6_; clear n0_ n1_ n2_ n3_ n4_ n5_ n6_; (try clear hb); (try clear hb2); (try clear hk); (try clear hi); (try clear ho0); have hcz108_0 : w107.cell? ⟨gb281, 0, none⟩ = some (.int .i64 t273) := (blk_cell BK281.out 0).trans rfl; have hcz108_1 : w107.cell? ⟨gb281, 1, none⟩ = some (.int .i64 t274) := (blk_cell BK281.out 1).trans rfl; have hcz108_2 : w107.cell? ⟨gb281, 2, none⟩ = some (.slice Ao8 t275.length co8) := (blk_cell BK281.out 2).trans rfl; have hfz108_0 := blk_frozen BK281.out 0; have hfz108_1 := blk_frozen BK281.out 1; have hfz108_2 := blk_frozen BK281.out 2) | ((with_reducible refine gate_callee (f := 45) rfl ?_); refine goesL_ (some 196) rfl rfl Try.func45 (by kernel_rfl) rfl #[.agg #[.int .i64 t273, .int .i64 t274, .slice Ao8 t275.length co8], .slice none 0 0, .int .i64 t273] rfl (by (try simp only [List.map_toArray, List.map_cons, List.map_nil]); first | done | rfl | (simp only [List.length_drop, List.length_take]; rfl)) ?_; (refine (impl_RunJobs.calls kj75 t273 t274 _ _ t275 _ _ ([] : List (S180)) t273 t319 t322 true _ ?side1 ?side2 ?side3 ?side4 A97.out).mono ?_); (case side1 => repeat (first | exact (Kd.R_reads' HO_282002.out).2.2 | (with_reducible refine Kd.C_alloc ?_ _) | (with_reducible refine Kd.C_drewN ?_ _) | (with_reducible refine Kd.C_drew ?_))); (case side2 => exact (Kd.R_reads' HO_282002.out).2.1); (case side3 => exact Kd.C_nil _ _); (case side4 => exact Nat.le_refl _); rintro e w109 ⟨v320, rfl, ho0, hb⟩; refine ⟨_, rfl, ?_⟩; have n0_ := Aside0.mk (Kd.R_below (by (with_reducible repeat (first | apply Kd.R_alloc | apply Kd.R_drewN | apply Kd.R_drew)); exact HO_4.out) hb); have n1_ := Aside0.mk (Kd.R_below (by (with_reducible repeat (first | apply Kd.R_alloc | apply Kd.R_drewN | apply Kd.R_drew)); exact HO_282002.out) hb); have n2_ := Aside0.mk (Kd.R_below (by (with_reducible repeat (first | apply Kd.R_alloc | apply Kd.R_drewN | apply Kd.R_drew)); exact HO_310002.out) hb); have n3_ := Aside0.mk (Kd.R_elder' (by (with_reducible repeat (first | apply Kd.R_alloc | apply Kd.R_drewN | apply Kd.R_drew)); exact HO316.out) (Kd.R_base ho0) hb); have n4_ := Aside0.mk (Kd.R_lower (Kd.R_new' ho0 (Kd.R_lt (by (with_reducible repeat (first | apply Kd.R_alloc | apply Kd.R_drewN | apply Kd.R_drew)); exact HO316.out))) (below_size (by repeat (first | (with_reducible first | exact HB.out | apply below_alloc | apply pw_below_drewN | apply below_drew1 | refine below_set ?_ GE281.out | refine below_set ?_ GE309.out) | exact HB.out)))); have n5_ := Aside0.mk (blk_below (g := gb281) (o := .cells #[.int .i64 t273, .int .i64 t274, .slice Ao8 t275.length co8] 30 (0, 0)) (by (with_reducible repeat (first | refine blk_drewN ?_ _ | refine blk_drew ?_ | refine blk_alloc ?_ _)); exact BK281.out) hb); have n6_ := Aside0.mk (blk_below (g := gb309) (o := .cells #[.int .i64 t303, .int .i64 t304, .slice Ao74 t305.length co74] 30 (0, 0)) (by (with_reducible repeat (first | refine blk_drewN ?_ _ | refine blk_drew ?_ | refine blk_alloc ?_ _)); exact BK309.out) hb); have n7_ := Aside0.mk (below_step (by repeat (first | (with_reducible first | exact HB.out | apply below_alloc | apply pw_below_drewN | apply below_drew1 | refine below_set ?_ GE281.out | refine below_set ?_ GE309.out) | exact HB.out)) hb); clear HO_4; clear HO_282002; clear HO_310002; clear HO316; clear BK281; clear BK309; clear HB; have HO_4 := n0_; have HO_282002 := n1_; have HO_310002 := n2_; have HO316 := n3_; have HO321 := n4_; have BK281 := n5_; have BK309 := n6_; have HB := n7_; clear n0_ n1_ n2_ n3_ n4_ n5_ n6_ n7_; (try clear hb); (try clear hb2); (try clear hk); (try clear hi); (try clear ho0); obtain ⟨Ao110, co110, eo110⟩ := Kd.R_slice HO316.out; subst eo110; obtain ⟨Ao111, co111, eo111⟩ := Kd.R_slice HO321.out; subst eo111))
                        go_ret
                        exact ⟨by first | rfl | (simp [errW_none, errW_some] <;> rfl) | (simp [*, errW_none, errW_some] <;> rfl), by repeat (first | (with_reducible first | exact HB.out | apply below_alloc | apply pw_below_drewN | apply below_drew1 | refine below_set ?_ GE281.out | refine below_set ?_ GE309.out) | exact HB.out)⟩
                       ·
                        rw [if_neg c103] at H
                        have c103b0 : ((t319.length : Int) == 0) = false := beq_eq_false_iff_ne.mpr c103
                        have c103b1 : ((t319.length : Int) != 0) = true := bne_iff_ne.mpr c103
                        have c103b2 : ¬ (t319 = []) := fun h_ => c103 (by rw [h_]; rfl)
                        obtain rfl := Option.some.inj H
                        have hnb112 := NB281_309.out
                        have hnc112 := NB309_281.out
                        have hcz113_0 : wc.cell? ⟨gb281, 0, none⟩ = some (.int .i64 t273) := (blk_cell BK281.out 0).trans rfl
                        have hcz113_1 : wc.cell? ⟨gb281, 1, none⟩ = some (.int .i64 t274) := (blk_cell BK281.out 1).trans rfl
                        have hcz113_2 : wc.cell? ⟨gb281, 2, none⟩ = some (.slice Ao8 t275.length co8) := (blk_cell BK281.out 2).trans rfl
                        have hfz113_0 := blk_frozen BK281.out 0
                        have hfz113_1 := blk_frozen BK281.out 1
                        have hfz113_2 := blk_frozen BK281.out 2
                        obtain ⟨Ao114, co114, eo114⟩ := Kd.R_slice HO_4.out
                        subst eo114
                        go_wp2_with (first | ((with_reducible refine gate_callee (f := 45) rfl ?_); refine goesL_ (some 188) rfl rfl Try.func45 (by kernel_rfl) rfl #[.agg #[.int .i64 t273, .int .i64 t274, .slice Ao8 t275.length co8], .slice Ao114 t278.length co114, .int .i64 t273] rfl (by (try simp only [List.map_toArray, List.map_cons, List.map_nil]); first | done | rfl | (simp only [List.length_drop, List.length_take]; rfl)) ?_; (with_reducible refine (impl_RunJobs.calls kj75 t273 t274 _ _ t275 _ _ t278 t273 t314 t317 true _ ?side1 ?side2 ?side3 ?side4 A96.out).mono ?_); (case side1 => repeat (first | exact (Kd.R_reads' HO_282002.out).2.2 | (with_reducible refine Kd.C_alloc ?_ _) | (with_reducible refine Kd.C_drewN ?_ _) | (with_reducible refine Kd.C_drew ?_))); (case side2 => exact (Kd.R_reads' HO_282002.out).2.1); (case side3 => repeat (first | exact (Kd.R_reads' HO_4.out).2.2 | (with_reducible refine Kd.C_alloc ?_ _) | (with_reducible refine Kd.C_drewN ?_ _) | (with_reducible refine Kd.C_drew ?_))); (case side4 => exact (Kd.R_reads' HO_4.out).2.1); rintro e w115 ⟨v315, rfl, ho0, hb⟩; refine ⟨_, rfl, ?_⟩; have n0_ := Aside0.mk (Kd.R_below (by (with_reducible repeat (first | apply Kd.R_alloc | apply Kd.R_drewN | apply Kd.R_drew)); exact HO_4.out) hb); have n1_ := Aside0.mk (Kd.R_below (by (with_reducible repeat (first | apply Kd.R_alloc | apply Kd.R_drewN | apply Kd.R_drew)); exact HO_282002.out) hb); have n2_ := Aside0.mk (Kd.R_below (by (with_reducible repeat (first | apply Kd.R_alloc | apply Kd.R_drewN | apply Kd.R_drew)); exact HO_310002.out) hb); have n3_ := Aside0.mk (Kd.R_lower ho0 (below_size (by repeat (first | (with_reducible first | exact HB.out | apply below_alloc | apply pw_below_drewN | apply below_drew1 | refine below_set ?_ GE281.out | refine below_set ?_ GE309.out) | exact HB.out)))); have n4_ := Aside0.mk (blk_below (g := gb281) (o := .cells #[.int .i64 t273, .int .i64 t274, .slice Ao8 t275.length co8] 30 (0, 0)) (by (with_reducible repeat (first | refine blk_drewN ?_ _ | refine blk_drew ?_ | refine blk_alloc ?_ _)); exact BK281.out) hb); have n5_ := Aside0.mk (blk_below (g := gb309) (o := .cells #[.int .i64 t303, .int .i64 t304, .slice Ao74 t305.length co74] 30 (0, 0)) (by (with_reducible repeat (first | refine blk_drewN ?_ _ | refine blk_drew ?_ | refine blk_alloc ?_ _)); exact BK309.out) hb); have n6_ := Aside0.mk (below_step (by repeat (first | (with_reducible first | exact HB.out | apply below_alloc | apply pw_below_drewN | apply below_drew1 | refine below_set ?_ GE281.out | refine below_set ?_ GE309.out) | exact HB.out)) hb); clear HO_4; clear HO_282002; clear HO_310002; clear BK281; clear BK309; clear HB; have HO_4 := n0_; have HO_282002 := n1_; have HO_310002 := n2_; have HO316 := n3_; have BK281 := n4_; have BK309 := n5_; have HB := n6_; clear n0_ n1_ n2_ n3_ n4_ n5_ n6_; (try clear hb); (try clear hb2); (try clear hk); (try clear hi); (try clear ho0); have hcz116_0 : w115.cell? ⟨gb281, 0, none⟩ = some (.int .i64 t273) := (blk_cell BK281.out 0).trans rfl; have hcz116_1 : w115.cell? ⟨gb281, 1, none⟩ = some (.int .i64 t274) := (blk_cell BK281.out 1).trans rfl; have hcz116_2 : w115.cell? ⟨gb281, 2, none⟩ = some (.slice Ao8 t275.length co8) := (blk_cell BK281.out 2).trans rfl; have hfz116_0 := blk_frozen BK281.out 0; have hfz116_1 := blk_frozen BK281.out 1; have hfz116_2 := blk_frozen BK281.out 2) | ((with_reducible refine gate_callee (f := 45) rfl ?_); refine goesL_ (some 196) rfl rfl Try.func45 (by kernel_rfl) rfl #[.agg #[.int .i64 t273, .int .i64 t274, .slice Ao8 t275.length co8], .slice none 0 0, .int .i64 t273] rfl (by (try simp only [List.map_toArray, List.map_cons, List.map_nil]); first | done | rfl | (simp only [List.length_drop, List.length_take]; rfl)) ?_; (refine (impl_RunJobs.calls kj75 t273 t274 _ _ t275 _ _ ([] : List (S180)) t273 t319 t322 true _ ?side1 ?side2 ?side3 ?side4 A97.out).mono ?_); (case side1 => repeat (first | exact (Kd.R_reads' HO_282002.out).2.2 | (with_reducible refine Kd.C_alloc ?_ _) | (with_reducible refine Kd.C_drewN ?_ _) | (with_reducible refine Kd.C_drew ?_))); (case side2 => exact (Kd.R_reads' HO_282002.out).2.1); (case side3 => exact Kd.C_nil _ _); (case side4 => exact Nat.le_refl _); rintro e w117 ⟨v320, rfl, ho0, hb⟩; refine ⟨_, rfl, ?_⟩; have n0_ := Aside0.mk (Kd.R_below (by (with_reducible repeat (first | apply Kd.R_alloc | apply Kd.R_drewN | apply Kd.R_drew)); exact HO_4.out) hb); have n1_ := Aside0.mk (Kd.R_below (by (with_reducible repeat (first | apply Kd.R_alloc | apply Kd.R_drewN | apply Kd.R_drew)); exact HO_282002.out) hb); have n2_ := Aside0.mk (Kd.R_below (by (with_reducible repeat (first | apply Kd.R_alloc | apply Kd.R_drewN | apply Kd.R_drew)); exact HO_310002.out) hb); have n3_ := Aside0.mk (Kd.R_elder' (by (with_reducible repeat (first | apply Kd.R_alloc | apply Kd.R_drewN | apply Kd.R_drew)); exact HO316.out) (Kd.R_base ho0) hb); have n4_ := Aside0.mk (Kd.R_lower (Kd.R_new' ho0 (Kd.R_lt (by (with_reducible repeat (first | apply Kd.R_alloc | apply Kd.R_drewN | apply Kd.R_drew)); exact HO316.out))) (below_size (by repeat (first | (with_reducible first | exact HB.out | apply below_alloc | apply pw_below_drewN | apply below_drew1 | refine below_set ?_ GE281.out | refine below_set ?_ GE309.out) | exact HB.out)))); have n5_ := Aside0.mk (blk_below (g := gb281) (o := .cells #[.int .i64 t273, .int .i64 t274, .slice Ao8 t275.length co8] 30 (0, 0)) (by (with_reducible repeat (first | refine blk_drewN ?_ _ | refine blk_drew ?_ | refine blk_alloc ?_ _)); exact BK281.out) hb); have n6_ := Aside0.mk (blk_below (g := gb309) (o := .cells #[.int .i64 t303, .int .i64 t304, .slice Ao74 t305.length co74] 30 (0, 0)) (by (with_reducible repeat (first | refine blk_drewN ?_ _ | refine blk_drew ?_ | refine blk_alloc ?_ _)); exact BK309.out) hb); have n7_ := Aside0.mk (below_step (by repeat (first | (with_reducible first | exact HB.out | apply below_alloc | apply pw_below_drewN | apply below_drew1 | refine below_set ?_ GE281.out | refine below_set ?_ GE309.out) | exact HB.out)) hb); clear HO_4; clear HO_282002; clear HO_310002; clear HO316; clear BK281; clear BK309; clear HB; have HO_4 := n0_; have HO_282002 := n1_; have HO_310002 := n2_; have HO316 := n3_; have HO321 := n4_; have BK281 := n5_; have BK309 := n6_; have HB := n7_; clear n0_ n1_ n2_ n3_ n4_ n5_ n6_ n7_; (try clear hb); (try clear hb2); (try clear hk); (try clear hi); (try clear ho0); obtain ⟨Ao118, co118, eo118⟩ := Kd.R_slice HO316.out; subst eo118; obtain ⟨Ao119, co119, eo119⟩ := Kd.R_slice HO321.out; subst eo119))
                        go_ret
                        exact ⟨by first | rfl | (simp [errW_none, errW_some] <;> rfl) | (simp [*, errW_none, errW_some] <;> rfl), by repeat (first | (with_reducible first | exact HB.out | apply below_alloc | apply pw_below_drewN | apply below_drew1 | refine below_set ?_ GE281.out | refine below_set ?_ GE309.out) | exact HB.out)⟩
                      ·
                       rw [if_neg c102] at H
                       have c102b0 : decide (t317 ≤ x5_1) = false := decide_eq_false c102
                       clear c102
                       obtain rfl := Option.some.inj H
                       have hnb120 := NB281_309.out
                       have hnc120 := NB309_281.out
                       have hcz121_0 : wc.cell? ⟨gb281, 0, none⟩ = some (.int .i64 t273) := (blk_cell BK281.out 0).trans rfl
                       have hcz121_1 : wc.cell? ⟨gb281, 1, none⟩ = some (.int .i64 t274) := (blk_cell BK281.out 1).trans rfl
                       have hcz121_2 : wc.cell? ⟨gb281, 2, none⟩ = some (.slice Ao8 t275.length co8) := (blk_cell BK281.out 2).trans rfl
                       have hfz121_0 := blk_frozen BK281.out 0
                       have hfz121_1 := blk_frozen BK281.out 1
                       have hfz121_2 := blk_frozen BK281.out 2
                       obtain ⟨Ao122, co122, eo122⟩ := Kd.R_slice HO_4.out
                       subst eo122
                       go_wp2_with (first | ((with_reducible refine gate_callee (f := 45) rfl ?_); refine goesL_ (some 188) rfl rfl Try.func45 (by kernel_rfl) rfl #[.agg #[.int .i64 t273, .int .i64 t274, .slice Ao8 t275.length co8], .slice Ao122 t278.length co122, .int .i64 t273] rfl (by (try simp only [List.map_toArray, List.map_cons, List.map_nil]); first | done | rfl | (simp only [List.length_drop, List.length_take]; rfl)) ?_; (with_reducible refine (impl_RunJobs.calls kj75 t273 t274 _ _ t275 _ _ t278 t273 t314 t317 true _ ?side1 ?side2 ?side3 ?side4 A96.out).mono ?_); (case side1 => repeat (first | exact (Kd.R_reads' HO_282002.out).2.2 | (with_reducible refine Kd.C_alloc ?_ _) | (with_reducible refine Kd.C_drewN ?_ _) | (with_reducible refine Kd.C_drew ?_))); (case side2 => exact (Kd.R_reads' HO_282002.out).2.1); (case side3 => repeat (first | exact (Kd.R_reads' HO_4.out).2.2 | (with_reducible refine Kd.C_alloc ?_ _) | (with_reducible refine Kd.C_drewN ?_ _) | (with_reducible refine Kd.C_drew ?_))); (case side4 => exact (Kd.R_reads' HO_4.out).2.1); rintro e w123 ⟨v315, rfl, ho0, hb⟩; refine ⟨_, rfl, ?_⟩; have n0_ := Aside0.mk (Kd.R_below (by (with_reducible repeat (first | apply Kd.R_alloc | apply Kd.R_drewN | apply Kd.R_drew)); exact HO_4.out) hb); have n1_ := Aside0.mk (Kd.R_below (by (with_reducible repeat (first | apply Kd.R_alloc | apply Kd.R_drewN | apply Kd.R_drew)); exact HO_282002.out) hb); have n2_ := Aside0.mk (Kd.R_below (by (with_reducible repeat (first | apply Kd.R_alloc | apply Kd.R_drewN | apply Kd.R_drew)); exact HO_310002.out) hb); have n3_ := Aside0.mk (Kd.R_lower ho0 (below_size (by repeat (first | (with_reducible first | exact HB.out | apply below_alloc | apply pw_below_drewN | apply below_drew1 | refine below_set ?_ GE281.out | refine below_set ?_ GE309.out) | exact HB.out)))); have n4_ := Aside0.mk (blk_below (g := gb281) (o := .cells #[.int .i64 t273, .int .i64 t274, .slice Ao8 t275.length co8] 30 (0, 0)) (by (with_reducible repeat (first | refine blk_drewN ?_ _ | refine blk_drew ?_ | refine blk_alloc ?_ _)); exact BK281.out) hb); have n5_ := Aside0.mk (blk_below (g := gb309) (o := .cells #[.int .i64 t303, .int .i64 t304, .slice Ao74 t305.length co74] 30 (0, 0)) (by (with_reducible repeat (first | refine blk_drewN ?_ _ | refine blk_drew ?_ | refine blk_alloc ?_ _)); exact BK309.out) hb); have n6_ := Aside0.mk (below_step (by repeat (first | (with_reducible first | exact HB.out | apply below_alloc | apply pw_below_drewN | apply below_drew1 | refine below_set ?_ GE281.out | refine below_set ?_ GE309.out) | exact HB.out)) hb); clear HO_4; clear HO_282002; clear HO_310002; clear BK281; clear BK309; clear HB; have HO_4 := n0_; have HO_282002 := n1_; have HO_310002 := n2_; have HO316 := n3_; have BK281 := n4_; have BK309 := n5_; have HB := n6_; clear n0_ n1_ n2_ n3_ n4_ n5_ n6_; (try clear hb); (try clear hb2); (try clear hk); (try clear hi); (try clear ho0); have hcz124_0 : w123.cell? ⟨gb281, 0, none⟩ = some (.int .i64 t273) := (blk_cell BK281.out 0).trans rfl; have hcz124_1 : w123.cell? ⟨gb281, 1, none⟩ = some (.int .i64 t274) := (blk_cell BK281.out 1).trans rfl; have hcz124_2 : w123.cell? ⟨gb281, 2, none⟩ = some (.slice Ao8 t275.length co8) := (blk_cell BK281.out 2).trans rfl; have hfz124_0 := blk_frozen BK281.out 0; have hfz124_1 := blk_frozen BK281.out 1; have hfz124_2 := blk_frozen BK281.out 2) | ((with_reducible refine gate_callee (f := 45) rfl ?_); refine goesL_ (some 196) rfl rfl Try.func45 (by kernel_rfl) rfl #[.agg #[.int .i64 t273, .int .i64 t274, .slice Ao8 t275.length co8], .slice none 0 0, .int .i64 t273] rfl (by (try simp only [List.map_toArray, List.map_cons, List.map_nil]); first | done | rfl | (simp only [List.length_drop, List.length_take]; rfl)) ?_; (refine (impl_RunJobs.calls kj75 t273 t274 _ _ t275 _ _ ([] : List (S180)) t273 t319 t322 true _ ?side1 ?side2 ?side3 ?side4 A97.out).mono ?_); (case side1 => repeat (first | exact (Kd.R_reads' HO_282002.out).2.2 | (with_reducible refine Kd.C_alloc ?_ _) | (with_reducible refine Kd.C_drewN ?_ _) | (with_reducible refine Kd.C_drew ?_))); (case side2 => exact (Kd.R_reads' HO_282002.out).2.1); (case side3 => exact Kd.C_nil _ _); (case side4 => exact Nat.le_refl _); rintro e w125 ⟨v320, rfl, ho0, hb⟩; refine ⟨_, rfl, ?_⟩; have n0_ := Aside0.mk (Kd.R_below (by (with_reducible repeat (first | apply Kd.R_alloc | apply Kd.R_drewN | apply Kd.R_drew)); exact HO_4.out) hb); have n1_ := Aside0.mk (Kd.R_below (by (with_reducible repeat (first | apply Kd.R_alloc | apply Kd.R_drewN | apply Kd.R_drew)); exact HO_282002.out) hb); have n2_ := Aside0.mk (Kd.R_below (by (with_reducible repeat (first | apply Kd.R_alloc | apply Kd.R_drewN | apply Kd.R_drew)); exact HO_310002.out) hb); have n3_ := Aside0.mk (Kd.R_elder' (by (with_reducible repeat (first | apply Kd.R_alloc | apply Kd.R_drewN | apply Kd.R_drew)); exact HO316.out) (Kd.R_base ho0) hb); have n4_ := Aside0.mk (Kd.R_lower (Kd.R_new' ho0 (Kd.R_lt (by (with_reducible repeat (first | apply Kd.R_alloc | apply Kd.R_drewN | apply Kd.R_drew)); exact HO316.out))) (below_size (by repeat (first | (with_reducible first | exact HB.out | apply below_alloc | apply pw_below_drewN | apply below_drew1 | refine below_set ?_ GE281.out | refine below_set ?_ GE309.out) | exact HB.out)))); have n5_ := Aside0.mk (blk_below (g := gb281) (o := .cells #[.int .i64 t273, .int .i64 t274, .slice Ao8 t275.length co8] 30 (0, 0)) (by (with_reducible repeat (first | refine blk_drewN ?_ _ | refine blk_drew ?_ | refine blk_alloc ?_ _)); exact BK281.out) hb); have n6_ := Aside0.mk (blk_below (g := gb309) (o := .cells #[.int .i64 t303, .int .i64 t304, .slice Ao74 t305.length co74] 30 (0, 0)) (by (with_reducible repeat (first | refine blk_drewN ?_ _ | refine blk_drew ?_ | refine blk_alloc ?_ _)); exact BK309.out) hb); have n7_ := Aside0.mk (below_step (by repeat (first | (with_reducible first | exact HB.out | apply below_alloc | apply pw_below_drewN | apply below_drew1 | refine below_set ?_ GE281.out | refine below_set ?_ GE309.out) | exact HB.out)) hb); clear HO_4; clear HO_282002; clear HO_310002; clear HO316; clear BK281; clear BK309; clear HB; have HO_4 := n0_; have HO_282002 := n1_; have HO_310002 := n2_; have HO316 := n3_; have HO321 := n4_; have BK281 := n5_; have BK309 := n6_; have HB := n7_; clear n0_ n1_ n2_ n3_ n4_ n5_ n6_ n7_; (try clear hb); (try clear hb2); (try clear hk); (try clear hi); (try clear ho0); obtain ⟨Ao126, co126, eo126⟩ := Kd.R_slice HO316.out; subst eo126))
                       go_ret
                       exact ⟨by first | rfl | (simp [errW_none, errW_some] <;> rfl) | (simp [*, errW_none, errW_some] <;> rfl), by repeat (first | (with_reducible first | exact HB.out | apply below_alloc | apply pw_below_drewN | apply below_drew1 | refine below_set ?_ GE281.out | refine below_set ?_ GE309.out) | exact HB.out)⟩
                     ·
                      rw [if_neg c101] at H
                      have c101b0 : decide (0 ≤ t317) = false := decide_eq_false c101
                      clear c101
                      obtain rfl := Option.some.inj H
                      have hnb127 := NB281_309.out
                      have hnc127 := NB309_281.out
                      have hcz128_0 : wc.cell? ⟨gb281, 0, none⟩ = some (.int .i64 t273) := (blk_cell BK281.out 0).trans rfl
                      have hcz128_1 : wc.cell? ⟨gb281, 1, none⟩ = some (.int .i64 t274) := (blk_cell BK281.out 1).trans rfl
                      have hcz128_2 : wc.cell? ⟨gb281, 2, none⟩ = some (.slice Ao8 t275.length co8) := (blk_cell BK281.out 2).trans rfl
                      have hfz128_0 := blk_frozen BK281.out 0
                      have hfz128_1 := blk_frozen BK281.out 1
                      have hfz128_2 := blk_frozen BK281.out 2
                      obtain ⟨Ao129, co129, eo129⟩ := Kd.R_slice HO_4.out
                      subst eo129
                      go_wp2_with (first | ((with_reducible refine gate_callee (f := 45) rfl ?_); refine goesL_ (some 188) rfl rfl Try.func45 (by kernel_rfl) rfl #[.agg #[.int .i64 t273, .int .i64 t274, .slice Ao8 t275.length co8], .slice Ao129 t278.length co129, .int .i64 t273] rfl (by (try simp only [List.map_toArray, List.map_cons, List.map_nil]); first | done | rfl | (simp only [List.length_drop, List.length_take]; rfl)) ?_; (with_reducible refine (impl_RunJobs.calls kj75 t273 t274 _ _ t275 _ _ t278 t273 t314 t317 true _ ?side1 ?side2 ?side3 ?side4 A96.out).mono ?_); (case side1 => repeat (first | exact (Kd.R_reads' HO_282002.out).2.2 | (with_reducible refine Kd.C_alloc ?_ _) | (with_reducible refine Kd.C_drewN ?_ _) | (with_reducible refine Kd.C_drew ?_))); (case side2 => exact (Kd.R_reads' HO_282002.out).2.1); (case side3 => repeat (first | exact (Kd.R_reads' HO_4.out).2.2 | (with_reducible refine Kd.C_alloc ?_ _) | (with_reducible refine Kd.C_drewN ?_ _) | (with_reducible refine Kd.C_drew ?_))); (case side4 => exact (Kd.R_reads' HO_4.out).2.1); rintro e w130 ⟨v315, rfl, ho0, hb⟩; refine ⟨_, rfl, ?_⟩; have n0_ := Aside0.mk (Kd.R_below (by (with_reducible repeat (first | apply Kd.R_alloc | apply Kd.R_drewN | apply Kd.R_drew)); exact HO_4.out) hb); have n1_ := Aside0.mk (Kd.R_below (by (with_reducible repeat (first | apply Kd.R_alloc | apply Kd.R_drewN | apply Kd.R_drew)); exact HO_282002.out) hb); have n2_ := Aside0.mk (Kd.R_below (by (with_reducible repeat (first | apply Kd.R_alloc | apply Kd.R_drewN | apply Kd.R_drew)); exact HO_310002.out) hb); have n3_ := Aside0.mk (Kd.R_lower ho0 (below_size (by repeat (first | (with_reducible first | exact HB.out | apply below_alloc | apply pw_below_drewN | apply below_drew1 | refine below_set ?_ GE281.out | refine below_set ?_ GE309.out) | exact HB.out)))); have n4_ := Aside0.mk (blk_below (g := gb281) (o := .cells #[.int .i64 t273, .int .i64 t274, .slice Ao8 t275.length co8] 30 (0, 0)) (by (with_reducible repeat (first | refine blk_drewN ?_ _ | refine blk_drew ?_ | refine blk_alloc ?_ _)); exact BK281.out) hb); have n5_ := Aside0.mk (blk_below (g := gb309) (o := .cells #[.int .i64 t303, .int .i64 t304, .slice Ao74 t305.length co74] 30 (0, 0)) (by (with_reducible repeat (first | refine blk_drewN ?_ _ | refine blk_drew ?_ | refine blk_alloc ?_ _)); exact BK309.out) hb); have n6_ := Aside0.mk (below_step (by repeat (first | (with_reducible first | exact HB.out | apply below_alloc | apply pw_below_drewN | apply below_drew1 | refine below_set ?_ GE281.out | refine below_set ?_ GE309.out) | exact HB.out)) hb); clear HO_4; clear HO_282002; clear HO_310002; clear BK281; clear BK309; clear HB; have HO_4 := n0_; have HO_282002 := n1_; have HO_310002 := n2_; have HO316 := n3_; have BK281 := n4_; have BK309 := n5_; have HB := n6_; clear n0_ n1_ n2_ n3_ n4_ n5_ n6_; (try clear hb); (try clear hb2); (try clear hk); (try clear hi); (try clear ho0); have hcz131_0 : w130.cell? ⟨gb281, 0, none⟩ = some (.int .i64 t273) := (blk_cell BK281.out 0).trans rfl; have hcz131_1 : w130.cell? ⟨gb281, 1, none⟩ = some (.int .i64 t274) := (blk_cell BK281.out 1).trans rfl; have hcz131_2 : w130.cell? ⟨gb281, 2, none⟩ = some (.slice Ao8 t275.length co8) := (blk_cell BK281.out 2).trans rfl; have hfz131_0 := blk_frozen BK281.out 0; have hfz131_1 := blk_frozen BK281.out 1; have hfz131_2 := blk_frozen BK281.out 2) | ((with_reducible refine gate_callee (f := 45) rfl ?_); refine goesL_ (some 196) rfl rfl Try.func45 (by kernel_rfl) rfl #[.agg #[.int .i64 t273, .int .i64 t274, .slice Ao8 t275.length co8], .slice none 0 0, .int .i64 t273] rfl (by (try simp only [List.map_toArray, List.map_cons, List.map_nil]); first | done | rfl | (simp only [List.length_drop, List.length_take]; rfl)) ?_; (refine (impl_RunJobs.calls kj75 t273 t274 _ _ t275 _ _ ([] : List (S180)) t273 t319 t322 true _ ?side1 ?side2 ?side3 ?side4 A97.out).mono ?_); (case side1 => repeat (first | exact (Kd.R_reads' HO_282002.out).2.2 | (with_reducible refine Kd.C_alloc ?_ _) | (with_reducible refine Kd.C_drewN ?_ _) | (with_reducible refine Kd.C_drew ?_))); (case side2 => exact (Kd.R_reads' HO_282002.out).2.1); (case side3 => exact Kd.C_nil _ _); (case side4 => exact Nat.le_refl _); rintro e w132 ⟨v320, rfl, ho0, hb⟩; refine ⟨_, rfl, ?_⟩; have n0_ := Aside0.mk (Kd.R_below (by (with_reducible repeat (first | apply Kd.R_alloc | apply Kd.R_drewN | apply Kd.R_drew)); exact HO_4.out) hb); have n1_ := Aside0.mk (Kd.R_below (by (with_reducible repeat (first | apply Kd.R_alloc | apply Kd.R_drewN | apply Kd.R_drew)); exact HO_282002.out) hb); have n2_ := Aside0.mk (Kd.R_below (by (with_reducible repeat (first | apply Kd.R_alloc | apply Kd.R_drewN | apply Kd.R_drew)); exact HO_310002.out) hb); have n3_ := Aside0.mk (Kd.R_elder' (by (with_reducible repeat (first | apply Kd.R_alloc | apply Kd.R_drewN | apply Kd.R_drew)); exact HO316.out) (Kd.R_base ho0) hb); have n4_ := Aside0.mk (Kd.R_lower (Kd.R_new' ho0 (Kd.R_lt (by (with_reducible repeat (first | apply Kd.R_alloc | apply Kd.R_drewN | apply Kd.R_drew)); exact HO316.out))) (below_size (by repeat (first | (with_reducible first | exact HB.out | apply below_alloc | apply pw_below_drewN | apply below_drew1 | refine below_set ?_ GE281.out | refine below_set ?_ GE309.out) | exact HB.out)))); have n5_ := Aside0.mk (blk_below (g := gb281) (o := .cells #[.int .i64 t273, .int .i64 t274, .slice Ao8 t275.length co8] 30 (0, 0)) (by (with_reducible repeat (first | refine blk_drewN ?_ _ | refine blk_drew ?_ | refine blk_alloc ?_ _)); exact BK281.out) hb); have n6_ := Aside0.mk (blk_below (g := gb309) (o := .cells #[.int .i64 t303, .int .i64 t304, .slice Ao74 t305.length co74] 30 (0, 0)) (by (with_reducible repeat (first | refine blk_drewN ?_ _ | refine blk_drew ?_ | refine blk_alloc ?_ _)); exact BK309.out) hb); have n7_ := Aside0.mk (below_step (by repeat (first | (with_reducible first | exact HB.out | apply below_alloc | apply pw_below_drewN | apply below_drew1 | refine below_set ?_ GE281.out | refine below_set ?_ GE309.out) | exact HB.out)) hb); clear HO_4; clear HO_282002; clear HO_310002; clear HO316; clear BK281; clear BK309; clear HB; have HO_4 := n0_; have HO_282002 := n1_; have HO_310002 := n2_; have HO316 := n3_; have HO321 := n4_; have BK281 := n5_; have BK309 := n6_; have HB := n7_; clear n0_ n1_ n2_ n3_ n4_ n5_ n6_ n7_; (try clear hb); (try clear hb2); (try clear hk); (try clear hi); (try clear ho0); obtain ⟨Ao133, co133, eo133⟩ := Kd.R_slice HO316.out; subst eo133))
                      go_ret
                      exact ⟨by first | rfl | (simp [errW_none, errW_some] <;> rfl) | (simp [*, errW_none, errW_some] <;> rfl), by repeat (first | (with_reducible first | exact HB.out | apply below_alloc | apply pw_below_drewN | apply below_drew1 | refine below_set ?_ GE281.out | refine below_set ?_ GE309.out) | exact HB.out)⟩
                    ·
                     rw [if_neg c100] at H
                     have c100b0 : ((t314.length : Int) == (t278.length : Int)) = false := beq_eq_false_iff_ne.mpr c100
                     have c100b1 : ((t314.length : Int) != (t278.length : Int)) = true := bne_iff_ne.mpr c100
                     have c100b2 : (t314.length == t278.length) = false := by first | simpa using c100 | (simp at c100 ⊢; omega)
                     obtain rfl := Option.some.inj H
                     have hnb134 := NB281_309.out
                     have hnc134 := NB309_281.out
                     have hcz135_0 : wc.cell? ⟨gb281, 0, none⟩ = some (.int .i64 t273) := (blk_cell BK281.out 0).trans rfl
                     have hcz135_1 : wc.cell? ⟨gb281, 1, none⟩ = some (.int .i64 t274) := (blk_cell BK281.out 1).trans rfl
                     have hcz135_2 : wc.cell? ⟨gb281, 2, none⟩ = some (.slice Ao8 t275.length co8) := (blk_cell BK281.out 2).trans rfl
                     have hfz135_0 := blk_frozen BK281.out 0
                     have hfz135_1 := blk_frozen BK281.out 1
                     have hfz135_2 := blk_frozen BK281.out 2
                     obtain ⟨Ao136, co136, eo136⟩ := Kd.R_slice HO_4.out
                     subst eo136
                     go_wp2_with (first | ((with_reducible refine gate_callee (f := 45) rfl ?_); refine goesL_ (some 188) rfl rfl Try.func45 (by kernel_rfl) rfl #[.agg #[.int .i64 t273, .int .i64 t274, .slice Ao8 t275.length co8], .slice Ao136 t278.length co136, .int .i64 t273] rfl (by (try simp only [List.map_toArray, List.map_cons, List.map_nil]); first | done | rfl | (simp only [List.length_drop, List.length_take]; rfl)) ?_; (with_reducible refine (impl_RunJobs.calls kj75 t273 t274 _ _ t275 _ _ t278 t273 t314 t317 true _ ?side1 ?side2 ?side3 ?side4 A96.out).mono ?_); (case side1 => repeat (first | exact (Kd.R_reads' HO_282002.out).2.2 | (with_reducible refine Kd.C_alloc ?_ _) | (with_reducible refine Kd.C_drewN ?_ _) | (with_reducible refine Kd.C_drew ?_))); (case side2 => exact (Kd.R_reads' HO_282002.out).2.1); (case side3 => repeat (first | exact (Kd.R_reads' HO_4.out).2.2 | (with_reducible refine Kd.C_alloc ?_ _) | (with_reducible refine Kd.C_drewN ?_ _) | (with_reducible refine Kd.C_drew ?_))); (case side4 => exact (Kd.R_reads' HO_4.out).2.1); rintro e w137 ⟨v315, rfl, ho0, hb⟩; refine ⟨_, rfl, ?_⟩; have n0_ := Aside0.mk (Kd.R_below (by (with_reducible repeat (first | apply Kd.R_alloc | apply Kd.R_drewN | apply Kd.R_drew)); exact HO_4.out) hb); have n1_ := Aside0.mk (Kd.R_below (by (with_reducible repeat (first | apply Kd.R_alloc | apply Kd.R_drewN | apply Kd.R_drew)); exact HO_282002.out) hb); have n2_ := Aside0.mk (Kd.R_below (by (with_reducible repeat (first | apply Kd.R_alloc | apply Kd.R_drewN | apply Kd.R_drew)); exact HO_310002.out) hb); have n3_ := Aside0.mk (Kd.R_lower ho0 (below_size (by repeat (first | (with_reducible first | exact HB.out | apply below_alloc | apply pw_below_drewN | apply below_drew1 | refine below_set ?_ GE281.out | refine below_set ?_ GE309.out) | exact HB.out)))); have n4_ := Aside0.mk (blk_below (g := gb281) (o := .cells #[.int .i64 t273, .int .i64 t274, .slice Ao8 t275.length co8] 30 (0, 0)) (by (with_reducible repeat (first | refine blk_drewN ?_ _ | refine blk_drew ?_ | refine blk_alloc ?_ _)); exact BK281.out) hb); have n5_ := Aside0.mk (blk_below (g := gb309) (o := .cells #[.int .i64 t303, .int .i64 t304, .slice Ao74 t305.length co74] 30 (0, 0)) (by (with_reducible repeat (first | refine blk_drewN ?_ _ | refine blk_drew ?_ | refine blk_alloc ?_ _)); exact BK309.out) hb); have n6_ := Aside0.mk (below_step (by repeat (first | (with_reducible first | exact HB.out | apply below_alloc | apply pw_below_drewN | apply below_drew1 | refine below_set ?_ GE281.out | refine below_set ?_ GE309.out) | exact HB.out)) hb); clear HO_4; clear HO_282002; clear HO_310002; clear BK281; clear BK309; clear HB; have HO_4 := n0_; have HO_282002 := n1_; have HO_310002 := n2_; have HO316 := n3_; have BK281 := n4_; have BK309 := n5_; have HB := n6_; clear n0_ n1_ n2_ n3_ n4_ n5_ n6_; (try clear hb); (try clear hb2); (try clear hk); (try clear hi); (try clear ho0); have hcz138_0 : w137.cell? ⟨gb281, 0, none⟩ = some (.int .i64 t273) := (blk_cell BK281.out 0).trans rfl; have hcz138_1 : w137.cell? ⟨gb281, 1, none⟩ = some (.int .i64 t274) := (blk_cell BK281.out 1).trans rfl; have hcz138_2 : w137.cell? ⟨gb281, 2, none⟩ = some (.slice Ao8 t275.length co8) := (blk_cell BK281.out 2).trans rfl; have hfz138_0 := blk_frozen BK281.out 0; have hfz138_1 := blk_frozen BK281.out 1; have hfz138_2 := blk_frozen BK281.out 2) | ((with_reducible refine gate_callee (f := 45) rfl ?_); refine goesL_ (some 196) rfl rfl Try.func45 (by kernel_rfl) rfl #[.agg #[.int .i64 t273, .int .i64 t274, .slice Ao8 t275.length co8], .slice none 0 0, .int .i64 t273] rfl (by (try simp only [List.map_toArray, List.map_cons, List.map_nil]); first | done | rfl | (simp only [List.length_drop, List.length_take]; rfl)) ?_; (refine (impl_RunJobs.calls kj75 t273 t274 _ _ t275 _ _ ([] : List (S180)) t273 t319 t322 true _ ?side1 ?side2 ?side3 ?side4 A97.out).mono ?_); (case side1 => repeat (first | exact (Kd.R_reads' HO_282002.out).2.2 | (with_reducible refine Kd.C_alloc ?_ _) | (with_reducible refine Kd.C_drewN ?_ _) | (with_reducible refine Kd.C_drew ?_))); (case side2 => exact (Kd.R_reads' HO_282002.out).2.1); (case side3 => exact Kd.C_nil _ _); (case side4 => exact Nat.le_refl _); rintro e w139 ⟨v320, rfl, ho0, hb⟩; refine ⟨_, rfl, ?_⟩; have n0_ := Aside0.mk (Kd.R_below (by (with_reducible repeat (first | apply Kd.R_alloc | apply Kd.R_drewN | apply Kd.R_drew)); exact HO_4.out) hb); have n1_ := Aside0.mk (Kd.R_below (by (with_reducible repeat (first | apply Kd.R_alloc | apply Kd.R_drewN | apply Kd.R_drew)); exact HO_282002.out) hb); have n2_ := Aside0.mk (Kd.R_below (by (with_reducible repeat (first | apply Kd.R_alloc | apply Kd.R_drewN | apply Kd.R_drew)); exact HO_310002.out) hb); have n3_ := Aside0.mk (Kd.R_elder' (by (with_reducible repeat (first | apply Kd.R_alloc | apply Kd.R_drewN | apply Kd.R_drew)); exact HO316.out) (Kd.R_base ho0) hb); have n4_ := Aside0.mk (Kd.R_lower (Kd.R_new' ho0 (Kd.R_lt (by (with_reducible repeat (first | apply Kd.R_alloc | apply Kd.R_drewN | apply Kd.R_drew)); exact HO316.out))) (below_size (by repeat (first | (with_reducible first | exact HB.out | apply below_alloc | apply pw_below_drewN | apply below_drew1 | refine below_set ?_ GE281.out | refine below_set ?_ GE309.out) | exact HB.out)))); have n5_ := Aside0.mk (blk_below (g := gb281) (o := .cells #[.int .i64 t273, .int .i64 t274, .slice Ao8 t275.length co8] 30 (0, 0)) (by (with_reducible repeat (first | refine blk_drewN ?_ _ | refine blk_drew ?_ | refine blk_alloc ?_ _)); exact BK281.out) hb); have n6_ := Aside0.mk (blk_below (g := gb309) (o := .cells #[.int .i64 t303, .int .i64 t304, .slice Ao74 t305.length co74] 30 (0, 0)) (by (with_reducible repeat (first | refine blk_drewN ?_ _ | refine blk_drew ?_ | refine blk_alloc ?_ _)); exact BK309.out) hb); have n7_ := Aside0.mk (below_step (by repeat (first | (with_reducible first | exact HB.out | apply below_alloc | apply pw_below_drewN | apply below_drew1 | refine below_set ?_ GE281.out | refine below_set ?_ GE309.out) | exact HB.out)) hb); clear HO_4; clear HO_282002; clear HO_310002; clear HO316; clear BK281; clear BK309; clear HB; have HO_4 := n0_; have HO_282002 := n1_; have HO_310002 := n2_; have HO316 := n3_; have HO321 := n4_; have BK281 := n5_; have BK309 := n6_; have HB := n7_; clear n0_ n1_ n2_ n3_ n4_ n5_ n6_ n7_; (try clear hb); (try clear hb2); (try clear hk); (try clear hi); (try clear ho0); obtain ⟨Ao140, co140, eo140⟩ := Kd.R_slice HO316.out; subst eo140))
                     go_ret
                     exact ⟨by first | rfl | (simp [errW_none, errW_some] <;> rfl) | (simp [*, errW_none, errW_some] <;> rfl), by repeat (first | (with_reducible first | exact HB.out | apply below_alloc | apply pw_below_drewN | apply below_drew1 | refine below_set ?_ GE281.out | refine below_set ?_ GE309.out) | exact HB.out)⟩
                   ·
                    replace c99 := Bool.eq_false_iff.mpr c99
                    subst c99
                    have H1 : (some false) = some r := by rw [if_neg (show ¬ (false = true) by decide)] at H; exact H
                    clear H
                    have H := H1
                    clear H1
                    obtain rfl := Option.some.inj H
                    have hnb141 := NB281_309.out
                    have hnc141 := NB309_281.out
                    have hcz142_0 : wc.cell? ⟨gb281, 0, none⟩ = some (.int .i64 t273) := (blk_cell BK281.out 0).trans rfl
                    have hcz142_1 : wc.cell? ⟨gb281, 1, none⟩ = some (.int .i64 t274) := (blk_cell BK281.out 1).trans rfl
                    have hcz142_2 : wc.cell? ⟨gb281, 2, none⟩ = some (.slice Ao8 t275.length co8) := (blk_cell BK281.out 2).trans rfl
                    have hfz142_0 := blk_frozen BK281.out 0
                    have hfz142_1 := blk_frozen BK281.out 1
                    have hfz142_2 := blk_frozen BK281.out 2
                    obtain ⟨Ao143, co143, eo143⟩ := Kd.R_slice HO_4.out
                    subst eo143
                    go_wp2_with (first | ((with_reducible refine gate_callee (f := 45) rfl ?_); refine goesL_ (some 188) rfl rfl Try.func45 (by kernel_rfl) rfl #[.agg #[.int .i64 t273, .int .i64 t274, .slice Ao8 t275.length co8], .slice Ao143 t278.length co143, .int .i64 t273] rfl (by (try simp only [List.map_toArray, List.map_cons, List.map_nil]); first | done | rfl | (simp only [List.length_drop, List.length_take]; rfl)) ?_; (with_reducible refine (impl_RunJobs.calls kj75 t273 t274 _ _ t275 _ _ t278 t273 t314 t317 true _ ?side1 ?side2 ?side3 ?side4 A96.out).mono ?_); (case side1 => repeat (first | exact (Kd.R_reads' HO_282002.out).2.2 | (with_reducible refine Kd.C_alloc ?_ _) | (with_reducible refine Kd.C_drewN ?_ _) | (with_reducible refine Kd.C_drew ?_))); (case side2 => exact (Kd.R_reads' HO_282002.out).2.1); (case side3 => repeat (first | exact (Kd.R_reads' HO_4.out).2.2 | (with_reducible refine Kd.C_alloc ?_ _) | (with_reducible refine Kd.C_drewN ?_ _) | (with_reducible refine Kd.C_drew ?_))); (case side4 => exact (Kd.R_reads' HO_4.out).2.1); rintro e w144 ⟨v315, rfl, ho0, hb⟩; refine ⟨_, rfl, ?_⟩; have n0_ := Aside0.mk (Kd.R_below (by (with_reducible repeat (first | apply Kd.R_alloc | apply Kd.R_drewN | apply Kd.R_drew)); exact HO_4.out) hb); have n1_ := Aside0.mk (Kd.R_below (by (with_reducible repeat (first | apply Kd.R_alloc | apply Kd.R_drewN | apply Kd.R_drew)); exact HO_282002.out) hb); have n2_ := Aside0.mk (Kd.R_below (by (with_reducible repeat (first | apply Kd.R_alloc | apply Kd.R_drewN | apply Kd.R_drew)); exact HO_310002.out) hb); have n3_ := Aside0.mk (Kd.R_lower ho0 (below_size (by repeat (first | (with_reducible first | exact HB.out | apply below_alloc | apply pw_below_drewN | apply below_drew1 | refine below_set ?_ GE281.out | refine below_set ?_ GE309.out) | exact HB.out)))); have n4_ := Aside0.mk (blk_below (g := gb281) (o := .cells #[.int .i64 t273, .int .i64 t274, .slice Ao8 t275.length co8] 30 (0, 0)) (by (with_reducible repeat (first | refine blk_drewN ?_ _ | refine blk_drew ?_ | refine blk_alloc ?_ _)); exact BK281.out) hb); have n5_ := Aside0.mk (blk_below (g := gb309) (o := .cells #[.int .i64 t303, .int .i64 t304, .slice Ao74 t305.length co74] 30 (0, 0)) (by (with_reducible repeat (first | refine blk_drewN ?_ _ | refine blk_drew ?_ | refine blk_alloc ?_ _)); exact BK309.out) hb); have n6_ := Aside0.mk (below_step (by repeat (first | (with_reducible first | exact HB.out | apply below_alloc | apply pw_below_drewN | apply below_drew1 | refine below_set ?_ GE281.out | refine below_set ?_ GE309.out) | exact HB.out)) hb); clear HO_4; clear HO_282002; clear HO_310002; clear BK281; clear BK309; clear HB; have HO_4 := n0_; have HO_282002 := n1_; have HO_310002 := n2_; have HO316 := n3_; have BK281 := n4_; have BK309 := n5_; have HB := n6_; clear n0_ n1_ n2_ n3_ n4_ n5_ n6_; (try clear hb); (try clear hb2); (try clear hk); (try clear hi); (try clear ho0); have hcz145_0 : w144.cell? ⟨gb281, 0, none⟩ = some (.int .i64 t273) := (blk_cell BK281.out 0).trans rfl; have hcz145_1 : w144.cell? ⟨gb281, 1, none⟩ = some (.int .i64 t274) := (blk_cell BK281.out 1).trans rfl; have hcz145_2 : w144.cell? ⟨gb281, 2, none⟩ = some (.slice Ao8 t275.length co8) := (blk_cell BK281.out 2).trans rfl; have hfz145_0 := blk_frozen BK281.out 0; have hfz145_1 := blk_frozen BK281.out 1; have hfz145_2 := blk_frozen BK281.out 2) | ((with_reducible refine gate_callee (f := 45) rfl ?_); refine goesL_ (some 196) rfl rfl Try.func45 (by kernel_rfl) rfl #[.agg #[.int .i64 t273, .int .i64 t274, .slice Ao8 t275.length co8], .slice none 0 0, .int .i64 t273] rfl (by (try simp only [List.map_toArray, List.map_cons, List.map_nil]); first | done | rfl | (simp only [List.length_drop, List.length_take]; rfl)) ?_; (refine (impl_RunJobs.calls kj75 t273 t274 _ _ t275 _ _ ([] : List (S180)) t273 t319 t322 false _ ?side1 ?side2 ?side3 ?side4 A97.out).mono ?_); (case side1 => repeat (first | exact (Kd.R_reads' HO_282002.out).2.2 | (with_reducible refine Kd.C_alloc ?_ _) | (with_reducible refine Kd.C_drewN ?_ _) | (with_reducible refine Kd.C_drew ?_))); (case side2 => exact (Kd.R_reads' HO_282002.out).2.1); (case side3 => exact Kd.C_nil _ _); (case side4 => exact Nat.le_refl _); rintro e w146 ⟨v320, rfl, ho0, hb⟩; refine ⟨_, rfl, ?_⟩; have n0_ := Aside0.mk (Kd.R_below (by (with_reducible repeat (first | apply Kd.R_alloc | apply Kd.R_drewN | apply Kd.R_drew)); exact HO_4.out) hb); have n1_ := Aside0.mk (Kd.R_below (by (with_reducible repeat (first | apply Kd.R_alloc | apply Kd.R_drewN | apply Kd.R_drew)); exact HO_282002.out) hb); have n2_ := Aside0.mk (Kd.R_below (by (with_reducible repeat (first | apply Kd.R_alloc | apply Kd.R_drewN | apply Kd.R_drew)); exact HO_310002.out) hb); have n3_ := Aside0.mk (Kd.R_elder' (by (with_reducible repeat (first | apply Kd.R_alloc | apply Kd.R_drewN | apply Kd.R_drew)); exact HO316.out) (Kd.R_base ho0) hb); have n4_ := Aside0.mk (Kd.R_lower (Kd.R_new' ho0 (Kd.R_lt (by (with_reducible repeat (first | apply Kd.R_alloc | apply Kd.R_drewN | apply Kd.R_drew)); exact HO316.out))) (below_size (by repeat (first | (with_reducible first | exact HB.out | apply below_alloc | apply pw_below_drewN | apply below_drew1 | refine below_set ?_ GE281.out | refine below_set ?_ GE309.out) | exact HB.out)))); have n5_ := Aside0.mk (blk_below (g := gb281) (o := .cells #[.int .i64 t273, .int .i64 t274, .slice Ao8 t275.length co8] 30 (0, 0)) (by (with_reducible repeat (first | refine blk_drewN ?_ _ | refine blk_drew ?_ | refine blk_alloc ?_ _)); exact BK281.out) hb); have n6_ := Aside0.mk (blk_below (g := gb309) (o := .cells #[.int .i64 t303, .int .i64 t304, .slice Ao74 t305.length co74] 30 (0, 0)) (by (with_reducible repeat (first | refine blk_drewN ?_ _ | refine blk_drew ?_ | refine blk_alloc ?_ _)); exact BK309.out) hb); have n7_ := Aside0.mk (below_step (by repeat (first | (with_reducible first | exact HB.out | apply below_alloc | apply pw_below_drewN | apply below_drew1 | refine below_set ?_ GE281.out | refine below_set ?_ GE309.out) | exact HB.out)) hb); clear HO_4; clear HO_282002; clear HO_310002; clear HO316; clear BK281; clear BK309; clear HB; have HO_4 := n0_; have HO_282002 := n1_; have HO_310002 := n2_; have HO316 := n3_; have HO321 := n4_; have BK281 := n5_; have BK309 := n6_; have HB := n7_; clear n0_ n1_ n2_ n3_ n4_ n5_ n6_ n7_; (try clear hb); (try clear hb2); (try clear hk); (try clear hi); (try clear ho0)))
                    go_ret
                    exact ⟨by first | rfl | (simp [errW_none, errW_some] <;> rfl) | (simp [*, errW_none, errW_some] <;> rfl), by repeat (first | (with_reducible first | exact HB.out | apply below_alloc | apply pw_below_drewN | apply below_drew1 | refine below_set ?_ GE281.out | refine below_set ?_ GE309.out) | exact HB.out)⟩
                  ·
                   replace c98 := Bool.eq_false_iff.mpr c98
                   subst c98
                   have H1 : (some false) = some r := by rw [if_neg (show ¬ (false = true) by decide)] at H; exact H
                   clear H
                   have H := H1
                   clear H1
                   obtain rfl := Option.some.inj H
                   have hnb147 := NB281_309.out
                   have hnc147 := NB309_281.out
                   have hcz148_0 : wc.cell? ⟨gb281, 0, none⟩ = some (.int .i64 t273) := (blk_cell BK281.out 0).trans rfl
                   have hcz148_1 : wc.cell? ⟨gb281, 1, none⟩ = some (.int .i64 t274) := (blk_cell BK281.out 1).trans rfl
                   have hcz148_2 : wc.cell? ⟨gb281, 2, none⟩ = some (.slice Ao8 t275.length co8) := (blk_cell BK281.out 2).trans rfl
                   have hfz148_0 := blk_frozen BK281.out 0
                   have hfz148_1 := blk_frozen BK281.out 1
                   have hfz148_2 := blk_frozen BK281.out 2
                   obtain ⟨Ao149, co149, eo149⟩ := Kd.R_slice HO_4.out
                   subst eo149
                   go_wp2_with (first | ((with_reducible refine gate_callee (f := 45) rfl ?_); refine goesL_ (some 188) rfl rfl Try.func45 (by kernel_rfl) rfl #[.agg #[.int .i64 t273, .int .i64 t274, .slice Ao8 t275.length co8], .slice Ao149 t278.length co149, .int .i64 t273] rfl (by (try simp only [List.map_toArray, List.map_cons, List.map_nil]); first | done | rfl | (simp only [List.length_drop, List.length_take]; rfl)) ?_; (with_reducible refine (impl_RunJobs.calls kj75 t273 t274 _ _ t275 _ _ t278 t273 t314 t317 false _ ?side1 ?side2 ?side3 ?side4 A96.out).mono ?_); (case side1 => repeat (first | exact (Kd.R_reads' HO_282002.out).2.2 | (with_reducible refine Kd.C_alloc ?_ _) | (with_reducible refine Kd.C_drewN ?_ _) | (with_reducible refine Kd.C_drew ?_))); (case side2 => exact (Kd.R_reads' HO_282002.out).2.1); (case side3 => repeat (first | exact (Kd.R_reads' HO_4.out).2.2 | (with_reducible refine Kd.C_alloc ?_ _) | (with_reducible refine Kd.C_drewN ?_ _) | (with_reducible refine Kd.C_drew ?_))); (case side4 => exact (Kd.R_reads' HO_4.out).2.1); rintro e w150 ⟨v315, rfl, ho0, hb⟩; refine ⟨_, rfl, ?_⟩; have n0_ := Aside0.mk (Kd.R_below (by (with_reducible repeat (first | apply Kd.R_alloc | apply Kd.R_drewN | apply Kd.R_drew)); exact HO_4.out) hb); have n1_ := Aside0.mk (Kd.R_below (by (with_reducible repeat (first | apply Kd.R_alloc | apply Kd.R_drewN | apply Kd.R_drew)); exact HO_282002.out) hb); have n2_ := Aside0.mk (Kd.R_below (by (with_reducible repeat (first | apply Kd.R_alloc | apply Kd.R_drewN | apply Kd.R_drew)); exact HO_310002.out) hb); have n3_ := Aside0.mk (Kd.R_lower ho0 (below_size (by repeat (first | (with_reducible first | exact HB.out | apply below_alloc | apply pw_below_drewN | apply below_drew1 | refine below_set ?_ GE281.out | refine below_set ?_ GE309.out) | exact HB.out)))); have n4_ := Aside0.mk (blk_below (g := gb281) (o := .cells #[.int .i64 t273, .int .i64 t274, .slice Ao8 t275.length co8] 30 (0, 0)) (by (with_reducible repeat (first | refine blk_drewN ?_ _ | refine blk_drew ?_ | refine blk_alloc ?_ _)); exact BK281.out) hb); have n5_ := Aside0.mk (blk_below (g := gb309) (o := .cells #[.int .i64 t303, .int .i64 t304, .slice Ao74 t305.length co74] 30 (0, 0)) (by (with_reducible repeat (first | refine blk_drewN ?_ _ | refine blk_drew ?_ | refine blk_alloc ?_ _)); exact BK309.out) hb); have n6_ := Aside0.mk (below_step (by repeat (first | (with_reducible first | exact HB.out | apply below_alloc | apply pw_below_drewN | apply below_drew1 | refine below_set ?_ GE281.out | refine below_set ?_ GE309.out) | exact HB.out)) hb); clear HO_4; clear HO_282002; clear HO_310002; clear BK281; clear BK309; clear HB; have HO_4 := n0_; have HO_282002 := n1_; have HO_310002 := n2_; have HO316 := n3_; have BK281 := n4_; have BK309 := n5_; have HB := n6_; clear n0_ n1_ n2_ n3_ n4_ n5_ n6_; (try clear hb); (try clear hb2); (try clear hk); (try clear hi); (try clear ho0); have hcz151_0 : w150.cell? ⟨gb281, 0, none⟩ = some (.int .i64 t273) := (blk_cell BK281.out 0).trans rfl; have hcz151_1 : w150.cell? ⟨gb281, 1, none⟩ = some (.int .i64 t274) := (blk_cell BK281.out 1).trans rfl; have hcz151_2 : w150.cell? ⟨gb281, 2, none⟩ = some (.slice Ao8 t275.length co8) := (blk_cell BK281.out 2).trans rfl; have hfz151_0 := blk_frozen BK281.out 0; have hfz151_1 := blk_frozen BK281.out 1; have hfz151_2 := blk_frozen BK281.out 2) | ((with_reducible refine gate_callee (f := 45) rfl ?_); refine goesL_ (some 196) rfl rfl Try.func45 (by kernel_rfl) rfl #[.agg #[.int .i64 t273, .int .i64 t274, .slice Ao8 t275.length co8], .slice none 0 0, .int .i64 t273] rfl (by (try simp only [List.map_toArray, List.map_cons, List.map_nil]); first | done | rfl | (simp only [List.length_drop, List.length_take]; rfl)) ?_; (refine (impl_RunJobs.calls kj75 t273 t274 _ _ t275 _ _ ([] : List (S180)) t273 t319 t322 t323 _ ?side1 ?side2 ?side3 ?side4 A97.out).mono ?_); (case side1 => repeat (first | exact (Kd.R_reads' HO_282002.out).2.2 | (with_reducible refine Kd.C_alloc ?_ _) | (with_reducible refine Kd.C_drewN ?_ _) | (with_reducible refine Kd.C_drew ?_))); (case side2 => exact (Kd.R_reads' HO_282002.out).2.1); (case side3 => exact Kd.C_nil _ _); (case side4 => exact Nat.le_refl _); rintro e w152 ⟨v320, rfl, ho0, hb⟩; refine ⟨_, rfl, ?_⟩; have n0_ := Aside0.mk (Kd.R_below (by (with_reducible repeat (first | apply Kd.R_alloc | apply Kd.R_drewN | apply Kd.R_drew)); exact HO_4.out) hb); have n1_ := Aside0.mk (Kd.R_below (by (with_reducible repeat (first | apply Kd.R_alloc | apply Kd.R_drewN | apply Kd.R_drew)); exact HO_282002.out) hb); have n2_ := Aside0.mk (Kd.R_below (by (with_reducible repeat (first | apply Kd.R_alloc | apply Kd.R_drewN | apply Kd.R_drew)); exact HO_310002.out) hb); have n3_ := Aside0.mk (Kd.R_elder' (by (with_reducible repeat (first | apply Kd.R_alloc | apply Kd.R_drewN | apply Kd.R_drew)); exact HO316.out) (Kd.R_base ho0) hb); have n4_ := Aside0.mk (Kd.R_lower (Kd.R_new' ho0 (Kd.R_lt (by (with_reducible repeat (first | apply Kd.R_alloc | apply Kd.R_drewN | apply Kd.R_drew)); exact HO316.out))) (below_size (by repeat (first | (with_reducible first | exact HB.out | apply below_alloc | apply pw_below_drewN | apply below_drew1 | refine below_set ?_ GE281.out | refine below_set ?_ GE309.out) | exact HB.out)))); have n5_ := Aside0.mk (blk_below (g := gb281) (o := .cells #[.int .i64 t273, .int .i64 t274, .slice Ao8 t275.length co8] 30 (0, 0)) (by (with_reducible repeat (first | refine blk_drewN ?_ _ | refine blk_drew ?_ | refine blk_alloc ?_ _)); exact BK281.out) hb); have n6_ := Aside0.mk (blk_below (g := gb309) (o := .cells #[.int .i64 t303, .int .i64 t304, .slice Ao74 t305.length co74] 30 (0, 0)) (by (with_reducible repeat (first | refine blk_drewN ?_ _ | refine blk_drew ?_ | refine blk_alloc ?_ _)); exact BK309.out) hb); have n7_ := Aside0.mk (below_step (by repeat (first | (with_reducible first | exact HB.out | apply below_alloc | apply pw_below_drewN | apply below_drew1 | refine below_set ?_ GE281.out | refine below_set ?_ GE309.out) | exact HB.out)) hb); clear HO_4; clear HO_282002; clear HO_310002; clear HO316; clear BK281; clear BK309; clear HB; have HO_4 := n0_; have HO_282002 := n1_; have HO_310002 := n2_; have HO316 := n3_; have HO321 := n4_; have BK281 := n5_; have BK309 := n6_; have HB := n7_; clear n0_ n1_ n2_ n3_ n4_ n5_ n6_ n7_; (try clear hb); (try clear hb2); (try clear hk); (try clear hi); (try clear ho0)))
                   go_ret
                   exact ⟨by first | rfl | (simp [errW_none, errW_some] <;> rfl) | (simp [*, errW_none, errW_some] <;> rfl), by repeat (first | (with_reducible first | exact HB.out | apply below_alloc | apply pw_below_drewN | apply below_drew1 | refine below_set ?_ GE281.out | refine below_set ?_ GE309.out) | exact HB.out)⟩
      ·
       rw [if_neg c25] at H
       exact absurd H (by simp)
     ·
      rw [if_neg c24] at H
      exact absurd H (by simp)
def laws_FnWindows.Pure : Prop := ∀ (l0 : List Int), l0.length ≤ maxLen → l0.length * 1 ≤ 140737488351232 → (∀ x ∈ l0, (Lit.int .u8 x).wf = true) → ∃ k, laws_FnWindows.f k l0 = some true
theorem laws_FnWindows.walk (P : laws_FnWindows.Pure) (a0 : Option Addr) (len0 cap0 : Nat) (z0 : List Int) (w : World) (w0 : (a0 = none ∧ len0 = 0 ∧ cap0 = 0 ∧ z0 = []) ∨ ∃ x, a0 = some x ∧ len0 ≤ cap0 ∧ cap0 ≤ maxLen ∧ z0.length = cap0 ∧ (∀ i, i < z0.length → w.cell? (x.add i) = some (.int .u8 (z0.getD i 0))) ∧ ∀ n ∈ z0, (Lit.int .u8 n).wf = true) (y0 : len0 * 1 ≤ 140737488351232) :
  Calls Try.prog 7 #[.slice a0 len0 cap0] w fun e w' => e = .returned (.bool true) ∧ Below w.heap.size w w' := by
 obtain ⟨l0, rfl, hr0, hm0, hw0, hc0⟩ := ReadsInt.ofRowC w0
 obtain ⟨k, h⟩ := P l0 hm0 y0 hw0
 refine (laws_FnWindows.calls k _ _ l0 true w (Kd.C_of_reads (d := (0 : Int)) (h1 := fun _ => rfl) hr0) hc0 h).mono ?_
 rintro e w' ⟨rfl, hd⟩
 exact ⟨rfl, hd⟩
end Go.Proofs.Ytjgbjahpncfhhaa.PW2
