/- Which numbers are on a way: the program and the reference tell the same. -/
import Derived.Test.YtkfdfjjcjcadgaaP0
import Derived.Test.YtkfdfjjcjcadgaaP9
import Derived.Test.YtkfdfjjcjcadgaaThItem
namespace Go.Proofs.Ytkfdfjjcjcadgaa.Th
open Go.RowKit Go.Proofs.Ytkfdfjjcjcadgaa.P Go.Proofs.YtkfdfjjcjcadgaaW.PrintWords Go.Proofs.YtkfdfjjcjcadgaaW.PrintLast
set_option linter.unusedSimpArgs false
set_option linter.unusedVariables false
/-- V of all that are no marks, in order. -/
def nums (es : List S90) : List Int := (es.filter fun e => !e.f0).map (·.f1)
theorem nums_cons (e : S90) (es : List S90) : nums (e :: es) = if e.f0 = true then nums es else e.f1 :: nums es := by
  unfold nums
  rw [List.filter_cons]
  cases e.f0 <;> rfl
theorem nums_len (es : List S90) : (nums es).length ≤ es.length := by
  unfold nums
  rw [List.length_map]
  exact List.length_filter_le _ _
theorem spec_Numbers_l0 (es : List S90) (hn : es.length ≤ 1048576) (d : Nat) : ∀ (k : Nat) (out : List Int) (j : Nat), j ≤ es.length → es.length - j = d → d < k → out.length ≤ j →
    spec_Numbers.l0 k es out (j : Int) = some (out ++ nums (es.drop j)) := by
  induction d with
  | zero =>
    intro k out j hj hd hk ho
    obtain ⟨k, rfl⟩ : ∃ m, k = m + 1 := ⟨k - 1, by omega⟩
    simp only [spec_Numbers.l0]
    rw [if_neg (by omega), List.drop_of_length_le (by omega)]
    simp [nums]
  | succ d ih =>
    intro k out j hj hd hk ho
    obtain ⟨k, rfl⟩ : ∃ m, k = m + 1 := ⟨k - 1, by omega⟩
    have hlt : j < es.length := by omega
    simp only [spec_Numbers.l0]
    rw [if_pos (by omega), if_pos (by omega), Item_rd hlt, wrap_succ (by omega), drop_cons hlt, nums_cons]
    by_cases h : es[j].f0 = true
    · rw [if_pos h, if_pos h, ih k _ (j + 1) (by omega) (by omega) (by omega) (by omega)]
    · rw [if_neg h, if_neg h, if_pos (by omega), ih k _ (j + 1) (by omega) (by omega) (by omega) (by simp; omega), List.append_assoc]
      rfl
theorem spec_Numbers_ev (es : List S90) (hn : es.length ≤ 1048576) : ∀ k, es.length < k → spec_Numbers.f k es = some (nums es) := by
  intro k hk
  have := spec_Numbers_l0 es hn es.length k [] 0 (by omega) (by omega) hk (by simp)
  simpa [spec_Numbers.f] using this
theorem impl_Numbers_l0 (es : List S90) (hn : es.length ≤ 1048576) (d : Nat) : ∀ (k : Nat) (out : List Int) (j : Nat), j ≤ es.length → es.length - j = d → d < k → out.length ≤ j →
    impl_Numbers.l0 k out es (es.length : Int) (j : Int) = some (out ++ nums (es.drop j)) := by
  induction d with
  | zero =>
    intro k out j hj hd hk ho
    obtain ⟨k, rfl⟩ : ∃ m, k = m + 1 := ⟨k - 1, by omega⟩
    simp only [impl_Numbers.l0]
    rw [if_neg (by omega), List.drop_of_length_le (by omega)]
    simp [nums]
  | succ d ih =>
    intro k out j hj hd hk ho
    obtain ⟨k, rfl⟩ : ∃ m, k = m + 1 := ⟨k - 1, by omega⟩
    have hlt : j < es.length := by omega
    simp only [impl_Numbers.l0]
    rw [if_pos (by omega), if_pos (by omega), if_pos (by omega), Item_rd hlt, wrap_succ (by omega), drop_cons hlt, nums_cons]
    by_cases h : es[j].f0 = true
    · rw [if_pos h, if_pos h, ih k _ (j + 1) (by omega) (by omega) (by omega) (by omega)]
    · rw [if_neg h, if_neg h, if_pos (by omega), ih k _ (j + 1) (by omega) (by omega) (by omega) (by simp; omega), List.append_assoc]
      rfl
theorem impl_Numbers_ev (es : List S90) (hn : es.length ≤ 1048576) : ∀ k, es.length < k → impl_Numbers.f k es = some (nums es) := by
  intro k hk
  have := impl_Numbers_l0 es hn es.length k [] 0 (by omega) (by omega) hk (by simp)
  simpa [impl_Numbers.f] using this
end Go.Proofs.Ytkfdfjjcjcadgaa.Th
