/- What an event's values are: the program's and the reference's tell the same. -/
import Derived.Test.YtkfdfjjcjcadgaaP0
import Derived.Test.YtkfdfjjcjcadgaaP3
import Derived.Test.YtkfdfjjcjcadgaaP4
import Derived.Test.YtkfdfjjcjcadgaaThEvent
namespace Go.Proofs.Ytkfdfjjcjcadgaa.Th
open Go.RowKit Go.Proofs.Ytkfdfjjcjcadgaa.P Go.Proofs.YtkfdfjjcjcadgaaW.PrintWords Go.Proofs.YtkfdfjjcjcadgaaW.PrintLast
set_option linter.unusedSimpArgs false
set_option linter.unusedVariables false
/-- An event of a kind and a peer. -/
def isOf (e : S75) (a b : Int) : Bool := decide (e.f0 = a ∧ e.f1 = b)
/-- V of all of a kind and a peer, in order. -/
def vals (es : List S75) (a b : Int) : List Int := (es.filter fun e => isOf e a b).map (·.f2)
theorem vals_nil (a b : Int) : vals [] a b = [] := rfl
theorem vals_cons (e : S75) (es : List S75) (a b : Int) : vals (e :: es) a b = if isOf e a b then e.f2 :: vals es a b else vals es a b := by
  unfold vals
  rw [List.filter_cons]
  split <;> rfl
theorem vals_len (es : List S75) (a b : Int) : (vals es a b).length ≤ es.length := by
  unfold vals
  rw [List.length_map]
  exact List.length_filter_le _ _
theorem impl_isOf_eq (e : S75) (a b : Int) : impl_isOf.f e.f0 e.f1 e.f2 a b = some (isOf e a b) := by
  unfold impl_isOf.f isOf
  by_cases h : e.f0 = a
  · rw [if_pos h]; simp [h]; rfl
  · rw [if_neg h]; simp [h]
theorem spec_Values_l0 (es : List S75) (a b : Int) (hn : es.length ≤ 1048576) (d : Nat) : ∀ (k : Nat) (out : List Int) (j : Nat), j ≤ es.length → es.length - j = d → d < k → out.length ≤ j →
    spec_Values.l0 k es a b out (j : Int) = some (out ++ vals (es.drop j) a b) := by
  induction d with
  | zero =>
    intro k out j hj hd hk ho
    obtain ⟨k, rfl⟩ : ∃ m, k = m + 1 := ⟨k - 1, by omega⟩
    simp only [spec_Values.l0]
    rw [if_neg (by omega), List.drop_of_length_le (by omega), vals_nil, List.append_nil]
  | succ d ih =>
    intro k out j hj hd hk ho
    obtain ⟨k, rfl⟩ : ∃ m, k = m + 1 := ⟨k - 1, by omega⟩
    have hlt : j < es.length := by omega
    simp only [spec_Values.l0]
    rw [if_pos (by omega), if_pos (by omega), Event_rd hlt, wrap_succ (by omega), drop_cons hlt, vals_cons]
    by_cases h1 : es[j].f0 = a
    · rw [if_pos h1]
      by_cases h2 : es[j].f1 = b
      · rw [if_pos h2, if_pos (by omega), ih k _ (j + 1) (by omega) (by omega) (by omega) (by simp; omega), if_pos (by simp [isOf, h1, h2]), List.append_assoc]
        rfl
      · rw [if_neg h2, ih k _ (j + 1) (by omega) (by omega) (by omega) (by omega), if_neg (by simp [isOf, h2])]
    · rw [if_neg h1, ih k _ (j + 1) (by omega) (by omega) (by omega) (by omega), if_neg (by simp [isOf, h1])]
theorem spec_Values_ev (es : List S75) (a b : Int) (hn : es.length ≤ 1048576) : ∀ k, es.length < k → spec_Values.f k es a b = some (vals es a b) := by
  intro k hk
  have := spec_Values_l0 es a b hn es.length k [] 0 (by omega) (by omega) hk (by simp)
  simpa [spec_Values.f] using this
theorem spec_Count_ev (es : List S75) (a b : Int) (hn : es.length ≤ 1048576) : ∀ k, es.length < k → spec_Count.f k es a b = some ((vals es a b).length : Int) := by
  intro k hk
  simp [spec_Count.f, spec_Values_ev es a b hn k hk]
theorem impl_Values_l0 (es : List S75) (a b : Int) (hn : es.length ≤ 1048576) (d : Nat) : ∀ (k : Nat) (out : List Int) (j : Nat), j ≤ es.length → es.length - j = d → d < k → out.length ≤ j →
    impl_Values.l0 k a b out es (es.length : Int) (j : Int) = some (out ++ vals (es.drop j) a b) := by
  induction d with
  | zero =>
    intro k out j hj hd hk ho
    obtain ⟨k, rfl⟩ : ∃ m, k = m + 1 := ⟨k - 1, by omega⟩
    simp only [impl_Values.l0]
    rw [if_neg (by omega), List.drop_of_length_le (by omega), vals_nil, List.append_nil]
  | succ d ih =>
    intro k out j hj hd hk ho
    obtain ⟨k, rfl⟩ : ∃ m, k = m + 1 := ⟨k - 1, by omega⟩
    have hlt : j < es.length := by omega
    simp only [impl_Values.l0]
    rw [if_pos (by omega), if_pos (by omega), if_pos (by omega), Event_rd hlt, impl_isOf_eq, Option.bind_some, wrap_succ (by omega), drop_cons hlt, vals_cons]
    by_cases h : isOf es[j] a b = true
    · rw [if_pos h, if_pos h, if_pos (by omega), ih k _ (j + 1) (by omega) (by omega) (by omega) (by simp; omega), List.append_assoc]
      rfl
    · rw [if_neg h, if_neg h, ih k _ (j + 1) (by omega) (by omega) (by omega) (by omega)]
theorem impl_Values_ev (es : List S75) (a b : Int) (hn : es.length ≤ 1048576) : ∀ k, es.length < k → impl_Values.f k es a b = some (vals es a b) := by
  intro k hk
  have := impl_Values_l0 es a b hn es.length k [] 0 (by omega) (by omega) hk (by simp)
  simpa [impl_Values.f] using this
theorem impl_Count_ev (es : List S75) (a b : Int) (hn : es.length ≤ 1048576) : ∀ k, es.length < k → impl_Count.f k es a b = some ((vals es a b).length : Int) := by
  intro k hk
  simp [impl_Count.f, impl_Values_ev es a b hn k hk]
end Go.Proofs.Ytkfdfjjcjcadgaa.Th
