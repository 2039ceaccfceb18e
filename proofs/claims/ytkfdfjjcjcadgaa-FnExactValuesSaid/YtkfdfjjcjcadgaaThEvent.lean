/- Rows of Event: made, compared, marked, held. -/
import Derived.Test.YtkfdfjjcjcadgaaP0
import Derived.Test.YtkfdfjjcjcadgaaP3
import Derived.Test.YtkfdfjjcjcadgaaP4
import Derived.Test.YtkfdfjjcjcadgaaP5
import Derived.Test.YtkfdfjjcjcadgaaThA
namespace Go.Proofs.Ytkfdfjjcjcadgaa.Th
open Go.RowKit Go.Proofs.Ytkfdfjjcjcadgaa.P Go.Proofs.YtkfdfjjcjcadgaaW.PrintWords Go.Proofs.YtkfdfjjcjcadgaaW.PrintLast
set_option linter.unusedSimpArgs false
set_option linter.unusedVariables false

theorem Event_rd {xs : List S75} {j : Nat} (h : j < xs.length) : rd_T75 xs (j : Int) = xs[j] := getD_nat h
theorem Event_rdL {xs : List S81} {j : Nat} (h : j < xs.length) : rd_T81 xs (j : Int) = xs[j] := getD_nat h
theorem Event_rds {xs : List S75} {j : Nat} {v : S75} (h : j < xs.length) : rd_T75 (xs.set j v) (j : Int) = v := by rw [Event_rd (by simpa using h), List.getElem_set_self]
instance : DecidableEq S75 := fun x y => if h : x.f0 = y.f0 ∧ x.f1 = y.f1 ∧ x.f2 = y.f2 then isTrue (by cases x; cases y; simp_all) else isFalse (by rintro rfl; simp at h)
def cEvent (x : S81) : S75 := ⟨x.f0, x.f1, x.f2⟩
def mEvent (c : Int) : S75 := ⟨c, c + 1, c + 2⟩
theorem Event_sz (l : List S81) (a : Int) (h0 : 0 ≤ a) (h1 : a ≤ 1048576) (hl : l.length ≤ 9223372036854775807) : laws_szEventS.f l a = some (if a < l.length then -1 else a - l.length) := by
  unfold laws_szEventS.f
  have e : wrap64 (a - (l.length : Int)) = a - l.length := wrap_id (by omega) (by omega)
  rw [e]
  split <;> split <;> first | rfl | omega
theorem toEventS_l0 (xs : List S81) (hn : xs.length ≤ 1048576) (d : Nat) : ∀ (k : Nat) (ys : List S75) (j : Nat), ys.length = xs.length → j ≤ xs.length → xs.length - j = d → d < k →
    laws_toEventS.l0 k xs ys (j : Int) = some (ys.take j ++ (xs.drop j).map cEvent) := by
  induction d with
  | zero =>
    intro k ys j hy hj hd hk
    obtain ⟨k, rfl⟩ : ∃ m, k = m + 1 := ⟨k - 1, by omega⟩
    simp only [laws_toEventS.l0]
    rw [if_neg (by omega), List.drop_of_length_le (by omega), List.take_of_length_le (by omega)]
    simp
  | succ d ih =>
    intro k ys j hy hj hd hk
    obtain ⟨k, rfl⟩ : ∃ m, k = m + 1 := ⟨k - 1, by omega⟩
    have hlt : j < xs.length := by omega
    simp only [laws_toEventS.l0, laws_toEvent.f, Option.bind_some]
    rw [if_pos (by omega), if_pos (by omega), if_pos (by omega), Event_rdL hlt, wrap_succ (by omega), Int.toNat_natCast, ih k _ (j + 1) (by simpa using hy) (by omega) (by omega) (by omega), take_set_succ (by omega), map_drop_cons _ hlt, List.append_assoc]
    rfl
theorem toEventS (xs : List S81) (hn : xs.length ≤ 1048576) : ∀ k, xs.length < k → laws_toEventS.f k xs = some (xs.map cEvent) := by
  intro k hk
  unfold laws_toEventS.f
  rw [if_pos (by omega), if_pos (by omega)]
  have := toEventS_l0 xs hn xs.length k (List.replicate xs.length z75) 0 (by simp) (by omega) (by omega) hk
  simpa using this
theorem eqEvent (x y : S75) : laws_eqEvent.f x.f0 x.f1 x.f2 y.f0 y.f1 y.f2 = some (decide (x = y)) := by
  unfold laws_eqEvent.f
  cases x; cases y
  simp only [S75.mk.injEq]
  repeat' split
  all_goals simp_all
theorem eqEventS_l0 (xs ys : List S75) (hl : xs.length = ys.length) (hn : xs.length < 9223372036854775807) (d : Nat) : ∀ (k j : Nat), j ≤ xs.length → xs.length - j = d → d < k →
    laws_eqEventS.l0 k xs ys (j : Int) = some (decide (xs.drop j = ys.drop j)) := by
  induction d with
  | zero =>
    intro k j hj hd hk
    obtain ⟨k, rfl⟩ : ∃ m, k = m + 1 := ⟨k - 1, by omega⟩
    simp only [laws_eqEventS.l0]
    rw [if_neg (by omega), List.drop_of_length_le (by omega), List.drop_of_length_le (by omega)]
    simp
  | succ d ih =>
    intro k j hj hd hk
    obtain ⟨k, rfl⟩ : ∃ m, k = m + 1 := ⟨k - 1, by omega⟩
    have hlt : j < xs.length := by omega
    simp only [laws_eqEventS.l0]
    rw [if_pos (by omega), if_pos (by omega), if_pos (by omega), Event_rd hlt, Event_rd (by omega : j < ys.length), wrap_succ (by omega), eqEvent, ih k (j + 1) (by omega) (by omega) (by omega)]
    by_cases h : xs[j] = ys[j]'(by omega)
    · simp [ext_from hl hlt, h]
    · simp [ext_from hl hlt, h]
theorem eqEventS (xs ys : List S75) (hn : xs.length < 9223372036854775807) : ∀ k, xs.length < k → laws_eqEventS.f k xs ys = some (decide (xs = ys)) := by
  intro k hk
  unfold laws_eqEventS.f
  by_cases h : xs.length = ys.length
  · rw [if_pos (by omega)]
    have := eqEventS_l0 xs ys h hn xs.length k 0 (by omega) (by omega) hk
    simpa using this
  · rw [if_neg (by omega)]
    have : xs ≠ ys := fun e => h (by rw [e])
    simp [this]
end Go.Proofs.Ytkfdfjjcjcadgaa.Th
