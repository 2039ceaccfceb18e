/- StateOk: the program's, and the law. -/
import Derived.Test.YtbdidcfjaohglaaFn4
namespace Go.Proofs.Ytbdidcfjaohglaa.VM
open Go Go.Proofs
set_option linter.unusedSimpArgs false
set_option linter.unusedVariables false
set_option maxRecDepth 100000
theorem run89 {j : Nat} (n : Int) : M.run (j + 3) 114 [.c (.v (.int .i64 n))] = some ([.c (.v (.bool (!numB n)))], [.c (.v (.int .i64 n))]) := by
  rw [m_run (fn := Try.f114) (i0 := 0) rfl Try.func114 rfl rfl (by simp)]
  simp -implicitDefEqProofs [run67, own1]
def H95 (xs : List Int) (i : Nat) : St := ⟨[(0, .c (.sl 0 [] 0 xs.length)), (1, .fn 114 []), (7, .c (.v (.int .i64 xs.length))), (8, .c (.v (.int .i64 i)))], [(0, ⟨.ro, 3, ints xs⟩)]⟩
theorem run95 {j : Nat} (hj : big ≤ j) (xs : List Int) (hl : xs.length ≤ 1048576) : ∃ n : Int, M.run (j + 4) 125 [.c (.r 3 xs.length (ints xs)), .fn 114 []] = some ([.c (.v (.int .i64 n))], [.c (.r 3 xs.length (ints xs)), .fn 114 []]) ∧ decide (0 ≤ n) = !xs.all numB := by
  rcases first_bad numB xs with hc | ⟨n, hn, hc, hg⟩
  · refine ⟨-1, ?_, by simp [all_of hc]⟩
    rw [m_run (fn := Try.f125) (i0 := 0) rfl Try.func125 rfl rfl (by simp)]
    simp -implicitDefEqProofs
    rw [loop_to (H95 xs) xs.length (by simp -implicitDefEqProofs [H95, hint1]) (by simp [big] at hj; omega) (fun i hi => by
      simp -implicitDefEqProofs [H95, hint1, hi, w64 (x := (i : Int) + 1) (by omega), run89, hc i hi, own1]) (by simp -implicitDefEqProofs [H95, stops, hint1])]
    simp -implicitDefEqProofs [H95]
  · refine ⟨n, ?_, by simp [not_all hn hc]⟩
    rw [m_run (fn := Try.f125) (i0 := 0) rfl Try.func125 rfl rfl (by simp)]
    simp -implicitDefEqProofs
    rw [loop_to (H95 xs) n (by simp -implicitDefEqProofs [H95, hint1]) (by simp [big] at hj; omega) (fun i hi => by
      simp -implicitDefEqProofs [H95, hint1, show i < xs.length by omega, w64 (x := (i : Int) + 1) (by omega), run89, hg i hi, own1]) (by simp -implicitDefEqProofs [H95, stops, hn, run89, hc, own1])]
    simp -implicitDefEqProofs [H95, hn, run89, hc, own1]
theorem run88 {j : Nat} (hj : big ≤ j) (xs : List Int) (hl : xs.length ≤ 1048576) : M.run (j + 5) 113 [.c (.r 3 xs.length (ints xs)), .fn 114 []] = some ([.c (.v (.bool (!xs.all numB)))], [.c (.r 3 xs.length (ints xs)), .fn 114 []]) := by
  obtain ⟨n, h1, h2⟩ := run95 hj xs hl
  rw [m_run (fn := Try.f113) (i0 := 0) rfl Try.func113 rfl rfl (by simp)]
  simp -implicitDefEqProofs [h1, own1, ← h2]
theorem run72 {j : Nat} (hj : big ≤ j) (xs : List Int) (hl : xs.length ≤ 1048576) : M.run (j + 6) 90 [.c (.r 3 xs.length (ints xs))] = some ([.c (.v (.bool (xs.all numB)))], [.c (.r 3 xs.length (ints xs))]) := by
  rw [m_run (fn := Try.f90) (i0 := 0) rfl Try.func90 rfl rfl (by simp)]
  simp -implicitDefEqProofs [run88 hj xs hl, own1]
theorem run47 {j : Nat} (hj : big ≤ j) (l : List Ins) (a c : Int) (xs ys : List Int) (hl : l.length ≤ 1048576) (hx : xs.length ≤ 1048576) (hy : ys.length ≤ 1048576) :
    M.run (j + 7) 40 [.c (.r 110 l.length (insT l)), .agg (stR a xs ys c)] = some ([.c (.v (.bool (stOkB l.length a xs ys c)))], [.c (.r 110 l.length (insT l)), .agg (stR a xs ys c)]) := by
  rw [m_run (fn := Try.f40) (i0 := 0) rfl Try.func40 rfl rfl (by simp [stR])]
  by_cases h1 : xs.length = 4
  · by_cases h1' : xs.all numB = true
    · by_cases h2 : inB c 0 2 = true
      · by_cases h3 : inB a 0 (l.length - 1) = true
        · by_cases h4 : ys.length ≤ 60
          · rw [show stOkB l.length a xs ys c = ys.all numB by simp [stOkB, h1, h1', h2, h3, h4, -List.all_eq_true]]
            simp -implicitDefEqProofs [stR, show (xs.length : Int) = 4 by omega, own1, run64, run72 hj xs hx, run72 hj ys hy, h1', h2, w64 (x := (l.length : Int) - 1) (by omega), h3, show (ys.length : Int) ≤ 60 by omega]
          · rw [show stOkB l.length a xs ys c = false by simp [stOkB, h1, h1', h2, h3, h4]]
            simp -implicitDefEqProofs [stR, show (xs.length : Int) = 4 by omega, own1, run64, run72 hj xs hx, h1', h2, w64 (x := (l.length : Int) - 1) (by omega), h3, show ¬ (ys.length : Int) ≤ 60 by omega]
        · rw [show stOkB l.length a xs ys c = false by simp [stOkB, h1, h1', h2, h3]]
          simp -implicitDefEqProofs [stR, show (xs.length : Int) = 4 by omega, own1, run64, run72 hj xs hx, h1', h2, w64 (x := (l.length : Int) - 1) (by omega), h3]
      · rw [show stOkB l.length a xs ys c = false by simp [stOkB, h1, h1', h2]]
        simp -implicitDefEqProofs [stR, show (xs.length : Int) = 4 by omega, own1, run64, run72 hj xs hx, h1', h2]
    · rw [show stOkB l.length a xs ys c = false by simp [stOkB, h1, h1']]
      simp -implicitDefEqProofs [stR, show (xs.length : Int) = 4 by omega, own1, run64, run72 hj xs hx, h1']
  · rw [show stOkB l.length a xs ys c = false by simp [stOkB, h1]]
    simp -implicitDefEqProofs [stR, own1, show ¬ (xs.length : Int) = 4 by omega]
end Go.Proofs.Ytbdidcfjaohglaa.VM
