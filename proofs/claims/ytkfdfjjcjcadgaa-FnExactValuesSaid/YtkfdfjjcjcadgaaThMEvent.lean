/- Rows of Event: marked. -/
import Derived.Test.YtkfdfjjcjcadgaaP0
import Derived.Test.YtkfdfjjcjcadgaaP11
import Derived.Test.YtkfdfjjcjcadgaaThEvent
namespace Go.Proofs.Ytkfdfjjcjcadgaa.Th
open Go.RowKit Go.Proofs.Ytkfdfjjcjcadgaa.P Go.Proofs.YtkfdfjjcjcadgaaW.PrintWords Go.Proofs.YtkfdfjjcjcadgaaW.PrintLast
set_option linter.unusedSimpArgs false
set_option linter.unusedVariables false

theorem markEventS_l0 (n : Nat) (hn : n ≤ 1073741824) (d : Nat) : ∀ (k : Nat) (xs : List S75) (c : Int) (j : Nat), xs.length = n → j ≤ n → n - j = d → d < k → 0 ≤ c → c ≤ 4611686018427387904 - 3 * d →
    laws_markEventS.l0 k xs c (j : Int) = some (c + 3 * d, xs.take j ++ (List.range d).map fun (i : Nat) => mEvent (c + 3 * i)) := by
  induction d with
  | zero =>
    intro k xs c j hx hj hd hk h0 h1
    obtain ⟨k, rfl⟩ : ∃ m, k = m + 1 := ⟨k - 1, by omega⟩
    simp only [laws_markEventS.l0]
    rw [if_neg (by omega), List.take_of_length_le (by omega)]
    simp
  | succ d ih =>
    intro k xs c j hx hj hd hk h0 h1
    obtain ⟨k, rfl⟩ : ∃ m, k = m + 1 := ⟨k - 1, by omega⟩
    have hlt : j < xs.length := by omega
    simp only [laws_markEventS.l0, Option.bind_some, Int.toNat_natCast]
    rw [if_pos (by omega), if_pos (by omega)]
    have w1 : wrap64 (c + 1) = c + 1 := wrap_id (by omega) (by omega)
    have w2 : wrap64 (c + 1 + 1) = c + 2 := by rw [wrap_id] <;> omega
    have w3 : wrap64 (c + 2 + 1) = c + 3 := by rw [wrap_id] <;> omega
    have wj : wrap64 ((j : Int) + 1) = ((j + 1 : Nat) : Int) := wrap_succ (by omega)
    simp only [w1, w2, w3, wj, Event_rds hlt, Event_rds (show j < (xs.set j _).length by simpa using hlt), Event_rds (show j < ((xs.set j _).set j _).length by simpa using hlt), Event_rds (show j < (((xs.set j _).set j _).set j _).length by simpa using hlt), Event_rds (show j < ((((xs.set j _).set j _).set j _).set j _).length by simpa using hlt), List.set_set]
    clear w1 w2 w3 wj
    have ih' := ih k (xs.set j (mEvent c)) (c + 3) (j + 1) (by simpa using hx) (by omega) (by omega) (by omega) (by omega) (by omega)
    refine Eq.trans ih' ?_
    rw [take_set_succ hlt, List.range_succ_eq_map, List.map_cons, List.append_assoc, List.map_map]
    congr 2
    · omega
    · congr 1
      simp only [List.singleton_append, Function.comp_def]
      congr 1
      · simp [mEvent, Int.add_assoc]
      · refine List.map_congr_left fun i _ => ?_
        congr 1
        omega
theorem markEventS (xs : List S75) (hn : xs.length ≤ 1073741824) (c : Int) (h0 : 0 ≤ c) (h1 : c ≤ 1152921504606846976) : ∀ k, xs.length < k → laws_markEventS.f k xs c = some (c + 3 * xs.length, (List.range xs.length).map fun (i : Nat) => mEvent (c + 3 * i)) := by
  intro k hk
  have := markEventS_l0 xs.length hn xs.length k xs c 0 rfl (by omega) (by omega) hk h0 (by omega)
  simpa [laws_markEventS.f] using this
end Go.Proofs.Ytkfdfjjcjcadgaa.Th
