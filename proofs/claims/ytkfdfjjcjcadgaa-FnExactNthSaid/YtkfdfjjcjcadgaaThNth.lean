/- Which place an event has: the program and the reference tell the same. -/
import Derived.Test.YtkfdfjjcjcadgaaP0
import Derived.Test.YtkfdfjjcjcadgaaP6
import Derived.Test.YtkfdfjjcjcadgaaThVals
namespace Go.Proofs.Ytkfdfjjcjcadgaa.Th
open Go.RowKit Go.Proofs.Ytkfdfjjcjcadgaa.P Go.Proofs.YtkfdfjjcjcadgaaW.PrintWords Go.Proofs.YtkfdfjjcjcadgaaW.PrintLast
set_option linter.unusedSimpArgs false
set_option linter.unusedVariables false
/-- The place of number n of a kind and a peer, from place j on. -/
def nthFrom (a b : Int) : List S75 → Int → Nat → Int
  | [], _, _ => -1
  | e :: es, n, j => if isOf e a b then (if n = 0 then (j : Int) else nthFrom a b es (wrap64 (n - 1)) (j + 1)) else nthFrom a b es n (j + 1)
def nth (es : List S75) (a b n : Int) : Int := nthFrom a b es n 0
theorem impl_Nth_l0 (es : List S75) (a b : Int) (hn : es.length ≤ 1048576) (d : Nat) : ∀ (k : Nat) (n : Int) (j : Nat), j ≤ es.length → es.length - j = d → d < k →
    impl_Nth.l0 k a b n es (es.length : Int) (j : Int) = some (nthFrom a b (es.drop j) n j) := by
  induction d with
  | zero =>
    intro k n j hj hd hk
    obtain ⟨k, rfl⟩ : ∃ m, k = m + 1 := ⟨k - 1, by omega⟩
    simp only [impl_Nth.l0]
    rw [if_neg (by omega), List.drop_of_length_le (by omega)]
    rfl
  | succ d ih =>
    intro k n j hj hd hk
    obtain ⟨k, rfl⟩ : ∃ m, k = m + 1 := ⟨k - 1, by omega⟩
    have hlt : j < es.length := by omega
    simp only [impl_Nth.l0]
    rw [if_pos (by omega), if_pos (by omega), if_pos (by omega), Event_rd hlt, impl_isOf_eq, Option.bind_some, wrap_succ (by omega), drop_cons hlt]
    simp only [nthFrom]
    by_cases h : isOf es[j] a b = true
    · rw [if_pos h, if_pos h]
      by_cases h0 : n = 0
      · rw [if_pos h0, if_pos h0]
      · rw [if_neg h0, if_neg h0, ih k _ (j + 1) (by omega) (by omega) (by omega)]
    · rw [if_neg h, if_neg h, ih k _ (j + 1) (by omega) (by omega) (by omega)]
theorem impl_Nth_ev (es : List S75) (a b n : Int) (hn : es.length ≤ 1048576) : ∀ k, es.length < k → impl_Nth.f k es a b n = some (nth es a b n) := by
  intro k hk
  have := impl_Nth_l0 es a b hn es.length k n 0 (by omega) (by omega) hk
  simpa [impl_Nth.f, nth] using this
theorem spec_Nth_l0 (es : List S75) (a b : Int) (hn : es.length ≤ 1048576) (d : Nat) : ∀ (k : Nat) (n : Int) (j : Nat), j ≤ es.length → es.length - j = d → 2 * d < k →
    spec_Nth.l0 k es a b n (j : Int) = some (nthFrom a b (es.drop j) n j) := by
  induction d with
  | zero =>
    intro k n j hj hd hk
    obtain ⟨k, rfl⟩ : ∃ m, k = m + 1 := ⟨k - 1, by omega⟩
    simp only [spec_Nth.l0]
    rw [if_neg (by omega), List.drop_of_length_le (by omega)]
    rfl
  | succ d ih =>
    intro k n j hj hd hk
    obtain ⟨k, rfl⟩ : ∃ m, k = m + 1 + 1 := ⟨k - 2, by omega⟩
    have hlt : j < es.length := by omega
    simp only [spec_Nth.l0, spec_Nth.j1]
    rw [if_pos (by omega), if_pos (by omega), Event_rd hlt, wrap_succ (by omega), drop_cons hlt]
    simp only [nthFrom, isOf, decide_eq_true_eq]
    rw [ih k n (j + 1) (by omega) (by omega) (by omega), ih k _ (j + 1) (by omega) (by omega) (by omega)]
    by_cases h : es[j].f0 = a
    · by_cases h2 : es[j].f1 = b
      · simp [h, h2]
        split <;> rfl
      · simp [h, h2]
    · simp [h]
theorem spec_Nth_ev (es : List S75) (a b n : Int) (hn : es.length ≤ 1048576) : ∀ k, 2 * es.length < k → spec_Nth.f k es a b n = some (nth es a b n) := by
  intro k hk
  have := spec_Nth_l0 es a b hn es.length k n 0 (by omega) (by omega) hk
  simpa [spec_Nth.f, nth] using this
end Go.Proofs.Ytkfdfjjcjcadgaa.Th
