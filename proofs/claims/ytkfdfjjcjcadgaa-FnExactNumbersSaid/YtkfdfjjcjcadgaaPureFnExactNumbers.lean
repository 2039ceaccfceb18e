/- The law FnExactNumbers answers true of all rows and numbers. -/
import Derived.Test.YtkfdfjjcjcadgaaP0
import Derived.Test.YtkfdfjjcjcadgaaP11
import Derived.Test.YtkfdfjjcjcadgaaThNumbers
import Derived.Test.YtkfdfjjcjcadgaaThMItem
namespace Go.Proofs.Ytkfdfjjcjcadgaa.Pure
open Go.RowKit Go.Proofs.Ytkfdfjjcjcadgaa.P Go.Proofs.Ytkfdfjjcjcadgaa.Th Go.Proofs.YtkfdfjjcjcadgaaW.PrintWords Go.Proofs.YtkfdfjjcjcadgaaW.PrintLast
theorem FnExactNumbers (l0 : List S92) {p : Prop} (_ : p) (hl : l0.length ≤ 9223372036854775807) : ∃ k, laws_FnExactNumbers.f k l0 = some true := by
  refine ⟨l0.length + 1 + 1, ?_⟩
  unfold laws_FnExactNumbers.f
  rw [Item_sz l0 1048576 (by omega) (by omega) hl, Option.bind_some]
  by_cases h : (1048576 : Int) < l0.length
  · rw [if_pos h, if_pos (by omega)]
  · rw [if_neg h, if_neg (by omega)]
    have hm : (l0.map cItem).length ≤ 1048576 := by rw [List.length_map]; omega
    have hk : ∀ k, l0.length < k → (l0.map cItem).length < k := fun k hk => by rw [List.length_map]; exact hk
    have hv := nums_len (l0.map cItem)
    have h1 := hk (l0.length + 1) (by omega)
    have h2 := hk (l0.length + 1 + 1) (by omega)
    have n1 : ¬ ((1 : Int) + 2 * ((l0.map cItem).length : Int) < 0) := by omega
    have n2 : ¬ ((1 : Int) + ((nums (l0.map cItem)).length : Int) < 0) := by omega
    have hj : laws_FnExactNumbers.j0 (l0.length + 1 + 1) l0 (nums (l0.map cItem)) (nums (l0.map cItem)) false = some true := by
      simp only [laws_FnExactNumbers.j0]
      rw [if_neg Bool.false_ne_true, markIntS _ (by omega) 1 (by omega) (by omega) (l0.length + 1) (by omega), Option.bind_some, heldIntS _ (by omega) 1 (by omega) (by omega) (l0.length + 1) (by omega), Option.bind_some, if_neg n2, if_pos rfl, toItemS l0 (by omega) (l0.length + 1) (by omega), Option.bind_some, impl_Numbers_ev _ hm _ h1, Option.bind_some, eqIntS_ev _ _ (by omega) _ (by omega), Option.bind_some, if_pos (by simp), Option.bind_some, if_neg n2, if_pos rfl]
    rw [toItemS l0 (by omega) _ (by omega), Option.bind_some, spec_Numbers_ev _ hm _ h2, Option.bind_some, Option.bind_some, impl_Numbers_ev _ hm _ h2, Option.bind_some, eqIntS_ev _ _ (by omega) _ (by omega), Option.bind_some, if_pos (by simp), Option.bind_some, eqItemS _ _ (by omega) _ h2, Option.bind_some, if_pos (by simp), markItemS _ (by omega) 1 (by omega) (by omega) _ h2, Option.bind_some, if_neg n1, Option.bind_some]
    simpa using hj
end Go.Proofs.Ytkfdfjjcjcadgaa.Pure
