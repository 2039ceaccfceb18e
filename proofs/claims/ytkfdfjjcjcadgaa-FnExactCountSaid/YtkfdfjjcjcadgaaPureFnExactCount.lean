/- The law FnExactCount answers true of all rows and numbers. -/
import Derived.Test.YtkfdfjjcjcadgaaP0
import Derived.Test.YtkfdfjjcjcadgaaP5
import Derived.Test.YtkfdfjjcjcadgaaThVals
namespace Go.Proofs.Ytkfdfjjcjcadgaa.Pure
open Go.RowKit Go.Proofs.Ytkfdfjjcjcadgaa.P Go.Proofs.Ytkfdfjjcjcadgaa.Th Go.Proofs.YtkfdfjjcjcadgaaW.PrintWords Go.Proofs.YtkfdfjjcjcadgaaW.PrintLast
theorem FnExactCount (l0 : List S81) (a1 a2 : Int) {p q r : Prop} (_ : p) (_ : q) (_ : r) (hl : l0.length ≤ 9223372036854775807) : ∃ k, laws_FnExactCount.f k l0 a1 a2 = some true := by
  refine ⟨l0.length + 1, ?_⟩
  unfold laws_FnExactCount.f
  rw [Event_sz l0 1048576 (by omega) (by omega) hl, Option.bind_some]
  by_cases h : (1048576 : Int) < l0.length
  · rw [if_pos h, if_pos (by omega)]
  · rw [if_neg h, if_neg (by omega)]
    have hm : (l0.map cEvent).length ≤ 1048576 := by rw [List.length_map]; omega
    have hk : (l0.map cEvent).length < l0.length + 1 := by rw [List.length_map]; omega
    simp [toEventS l0 (by omega) (l0.length + 1) (by omega), spec_Count_ev _ a1 a2 hm _ hk, impl_Count_ev _ a1 a2 hm _ hk, eqEventS (l0.map cEvent) (l0.map cEvent) (by omega) _ hk]
end Go.Proofs.Ytkfdfjjcjcadgaa.Pure
