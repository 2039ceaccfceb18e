/- The law FnExactValues answers true of all rows and numbers. -/
import Derived.Test.YtkfdfjjcjcadgaaP0
import Derived.Test.YtkfdfjjcjcadgaaP12
import Derived.Test.YtkfdfjjcjcadgaaThVals
import Derived.Test.YtkfdfjjcjcadgaaThMEvent
namespace Go.Proofs.Ytkfdfjjcjcadgaa.Pure
open Go.RowKit Go.Proofs.Ytkfdfjjcjcadgaa.P Go.Proofs.Ytkfdfjjcjcadgaa.Th Go.Proofs.YtkfdfjjcjcadgaaW.PrintWords Go.Proofs.YtkfdfjjcjcadgaaW.PrintLast
theorem FnExactValues (l0 : List S81) (a1 a2 : Int) {p q r : Prop} (_ : p) (_ : q) (_ : r) (hl : l0.length ≤ 9223372036854775807) : ∃ k, laws_FnExactValues.f k l0 a1 a2 = some true := by
  refine ⟨l0.length + 1 + 1, ?_⟩
  unfold laws_FnExactValues.f
  rw [Event_sz l0 1048576 (by omega) (by omega) hl, Option.bind_some]
  by_cases h : (1048576 : Int) < l0.length
  · rw [if_pos h, if_pos (by omega)]
  · rw [if_neg h, if_neg (by omega)]
    have hm : (l0.map cEvent).length ≤ 1048576 := by rw [List.length_map]; omega
    have hk : ∀ k, l0.length < k → (l0.map cEvent).length < k := fun k hk => by rw [List.length_map]; exact hk
    have hv := vals_len (l0.map cEvent) a1 a2
    have h1 := hk (l0.length + 1) (by omega)
    have h2 := hk (l0.length + 1 + 1) (by omega)
    have n1 : ¬ ((1 : Int) + 3 * ((l0.map cEvent).length : Int) < 0) := by omega
    have n2 : ¬ ((1 : Int) + ((vals (l0.map cEvent) a1 a2).length : Int) < 0) := by omega
    have hj : laws_FnExactValues.j0 (l0.length + 1 + 1) l0 a1 a2 (vals (l0.map cEvent) a1 a2) (vals (l0.map cEvent) a1 a2) false = some true := by
      simp only [laws_FnExactValues.j0]
      rw [if_neg Bool.false_ne_true, markIntS _ (by omega) 1 (by omega) (by omega) (l0.length + 1) (by omega), Option.bind_some, heldIntS _ (by omega) 1 (by omega) (by omega) (l0.length + 1) (by omega), Option.bind_some, if_neg n2, if_pos rfl, toEventS l0 (by omega) (l0.length + 1) (by omega), Option.bind_some, impl_Values_ev _ a1 a2 hm _ h1, Option.bind_some, eqIntS_ev _ _ (by omega) _ (by omega), Option.bind_some, if_pos (by simp), Option.bind_some, if_neg n2, if_pos rfl]
    rw [toEventS l0 (by omega) _ (by omega), Option.bind_some, spec_Values_ev _ a1 a2 hm _ h2, Option.bind_some, Option.bind_some, impl_Values_ev _ a1 a2 hm _ h2, Option.bind_some, eqIntS_ev _ _ (by omega) _ (by omega), Option.bind_some, if_pos (by simp), Option.bind_some, eqEventS _ _ (by omega) _ h2, Option.bind_some, if_pos (by simp), markEventS _ (by omega) 1 (by omega) (by omega) _ h2, Option.bind_some, if_neg n1, Option.bind_some]
    simpa using hj
end Go.Proofs.Ytkfdfjjcjcadgaa.Pure
