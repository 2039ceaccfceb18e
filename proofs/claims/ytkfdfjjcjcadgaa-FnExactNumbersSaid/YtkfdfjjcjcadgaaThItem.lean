/- Rows of Item: made, compared, marked, held. -/
import Derived.Test.YtkfdfjjcjcadgaaP0
import Derived.Test.YtkfdfjjcjcadgaaP8
import Derived.Test.YtkfdfjjcjcadgaaP9
import Derived.Test.YtkfdfjjcjcadgaaP10
import Derived.Test.YtkfdfjjcjcadgaaThA
namespace Go.Proofs.Ytkfdfjjcjcadgaa.Th
open Go.RowKit Go.Proofs.Ytkfdfjjcjcadgaa.P Go.Proofs.YtkfdfjjcjcadgaaW.PrintWords Go.Proofs.YtkfdfjjcjcadgaaW.PrintLast
set_option linter.unusedSimpArgs false
set_option linter.unusedVariables false

theorem Item_rd {xs : List S90} {j : Nat} (h : j < xs.length) : rd_T90 xs (j : Int) = xs[j] := getD_nat h
theorem Item_rdL {xs : List S92} {j : Nat} (h : j < xs.length) : rd_T92 xs (j : Int) = xs[j] := getD_nat h
theorem Item_rds {xs : List S90} {j : Nat} {v : S90} (h : j < xs.length) : rd_T90 (xs.set j v) (j : Int) = v := by rw [Item_rd (by simpa using h), List.getElem_set_self]
instance : DecidableEq S90 := fun x y => if h : x.f0 = y.f0 ∧ x.f1 = y.f1 then isTrue (by cases x; cases y; simp_all) else isFalse (by rintro rfl; simp at h)
def cItem (x : S92) : S90 := ⟨x.f0, x.f1⟩
def mItem (c : Int) : S90 := ⟨(Int.tmod c 3 == 0), c + 1⟩
theorem Item_sz (l : List S92) (a : Int) (h0 : 0 ≤ a) (h1 : a ≤ 1048576) (hl : l.length ≤ 9223372036854775807) : laws_szItemS.f l a = some (if a < l.length then -1 else a - l.length) := by
  unfold laws_szItemS.f
  have e : wrap64 (a - (l.length : Int)) = a - l.length := wrap_id (by omega) (by omega)
  rw [e]
  split <;> split <;> first | rfl | omega
theorem toItemS_l0 (xs : List S92) (hn : xs.length ≤ 1048576) (d : Nat) : ∀ (k : Nat) (ys : List S90) (j : Nat), ys.length = xs.length → j ≤ xs.length → xs.length - j = d → d < k →
    laws_toItemS.l0 k xs ys (j : Int) = some (ys.take j ++ (xs.drop j).map cItem) := by
  induction d with
  | zero =>
    intro k ys j hy hj hd hk
    obtain ⟨k, rfl⟩ : ∃ m, k = m + 1 := ⟨k - 1, by omega⟩
    simp only [laws_toItemS.l0]
    rw [if_neg (by omega), List.drop_of_length_le (by omega), List.take_of_length_le (by omega)]
    simp
  | succ d ih =>
    intro k ys j hy hj hd hk
    obtain ⟨k, rfl⟩ : ∃ m, k = m + 1 := ⟨k - 1, by omega⟩
    have hlt : j < xs.length := by omega
    simp only [laws_toItemS.l0, laws_toItem.f, Option.bind_some]
    rw [if_pos (by omega), if_pos (by omega), if_pos (by omega), Item_rdL hlt, wrap_succ (by omega), Int.toNat_natCast, ih k _ (j + 1) (by simpa using hy) (by omega) (by omega) (by omega), take_set_succ (by omega), map_drop_cons _ hlt, List.append_assoc]
    rfl
theorem toItemS (xs : List S92) (hn : xs.length ≤ 1048576) : ∀ k, xs.length < k → laws_toItemS.f k xs = some (xs.map cItem) := by
  intro k hk
  unfold laws_toItemS.f
  rw [if_pos (by omega), if_pos (by omega)]
  have := toItemS_l0 xs hn xs.length k (List.replicate xs.length z90) 0 (by simp) (by omega) (by omega) hk
  simpa using this
theorem eqItem (x y : S90) : laws_eqItem.f x.f0 x.f1 y.f0 y.f1 = some (decide (x = y)) := by
  unfold laws_eqItem.f
  cases x; cases y
  simp only [S90.mk.injEq]
  repeat' split
  all_goals simp_all
theorem eqItemS_l0 (xs ys : List S90) (hl : xs.length = ys.length) (hn : xs.length < 9223372036854775807) (d : Nat) : ∀ (k j : Nat), j ≤ xs.length → xs.length - j = d → d < k →
    laws_eqItemS.l0 k xs ys (j : Int) = some (decide (xs.drop j = ys.drop j)) := by
  induction d with
  | zero =>
    intro k j hj hd hk
    obtain ⟨k, rfl⟩ : ∃ m, k = m + 1 := ⟨k - 1, by omega⟩
    simp only [laws_eqItemS.l0]
    rw [if_neg (by omega), List.drop_of_length_le (by omega), List.drop_of_length_le (by omega)]
    simp
  | succ d ih =>
    intro k j hj hd hk
    obtain ⟨k, rfl⟩ : ∃ m, k = m + 1 := ⟨k - 1, by omega⟩
    have hlt : j < xs.length := by omega
    simp only [laws_eqItemS.l0]
    rw [if_pos (by omega), if_pos (by omega), if_pos (by omega), Item_rd hlt, Item_rd (by omega : j < ys.length), wrap_succ (by omega), eqItem, ih k (j + 1) (by omega) (by omega) (by omega)]
    by_cases h : xs[j] = ys[j]'(by omega)
    · simp [ext_from hl hlt, h]
    · simp [ext_from hl hlt, h]
theorem eqItemS (xs ys : List S90) (hn : xs.length < 9223372036854775807) : ∀ k, xs.length < k → laws_eqItemS.f k xs ys = some (decide (xs = ys)) := by
  intro k hk
  unfold laws_eqItemS.f
  by_cases h : xs.length = ys.length
  · rw [if_pos (by omega)]
    have := eqItemS_l0 xs ys h hn xs.length k 0 (by omega) (by omega) hk
    simpa using this
  · rw [if_neg (by omega)]
    have : xs ≠ ys := fun e => h (by rw [e])
    simp [this]
end Go.Proofs.Ytkfdfjjcjcadgaa.Th
