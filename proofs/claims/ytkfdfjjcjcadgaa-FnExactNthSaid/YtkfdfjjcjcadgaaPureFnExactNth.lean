/- The law FnExactNth answers true of all rows and numbers. -/
import Derived.Test.YtkfdfjjcjcadgaaP0
import Derived.Test.YtkfdfjjcjcadgaaP6
import Derived.Test.YtkfdfjjcjcadgaaThNth
namespace Go.Proofs.Ytkfdfjjcjcadgaa.Pure
open Go.RowKit Go.Proofs.Ytkfdfjjcjcadgaa.P Go.Proofs.Ytkfdfjjcjcadgaa.Th Go.Proofs.YtkfdfjjcjcadgaaW.PrintWords Go.Proofs.YtkfdfjjcjcadgaaW.PrintLast
theorem FnExactNth (l0 : List S81) (a1 a2 a3 : Int) {p q r s : Prop} (_ : p) (_ : q) (_ : r) (_ : s) (hl : l0.length ≤ 9223372036854775807) : ∃ k, laws_FnExactNth.f k l0 a1 a2 a3 = some true := by
  refine ⟨2 * l0.length + 1, ?_⟩
  unfold laws_FnExactNth.f
  rw [Event_sz l0 1048576 (by omega) (by omega) hl, Option.bind_some]
  by_cases h : (1048576 : Int) < l0.length
  · rw [if_pos h, if_pos (by omega)]
  · rw [if_neg h, if_neg (by omega)]
    have hm : (l0.map cEvent).length ≤ 1048576 := by rw [List.length_map]; omega
    have hk : 2 * (l0.map cEvent).length < 2 * l0.length + 1 := by rw [List.length_map]; omega
    have hk' : (l0.map cEvent).length < 2 * l0.length + 1 := by omega
    simp [toEventS l0 (by omega) (2 * l0.length + 1) (by omega), spec_Nth_ev _ a1 a2 a3 hm _ hk, impl_Nth_ev _ a1 a2 a3 hm _ hk', eqEventS (l0.map cEvent) (l0.map cEvent) (by omega) _ hk']
end Go.Proofs.Ytkfdfjjcjcadgaa.Pure
