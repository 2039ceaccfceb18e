/- StateOk of the specification, and of the program. -/
import Derived.Test.YtbdidcfjaohglaaFn3
namespace Go.Proofs.Ytbdidcfjaohglaa.VM
open Go Go.Proofs
set_option linter.unusedSimpArgs false
set_option linter.unusedVariables false
set_option maxRecDepth 100000
def stOkB (n : Nat) (a : Int) (xs ys : List Int) (c : Int) : Bool := decide (xs.length = 4) && inB c 0 2 && inB a 0 ((n : Int) - 1) && decide (ys.length ≤ 60) && xs.all numB && ys.all numB
def H44 (l : List Ins) (a c : Int) (xs ys : List Int) (t i : Nat) : St := ⟨[(0, .c (.sl 0 [] 0 l.length)), (3, .ptr 256 [] 0), (t, .c (.v (.int .i64 i)))], [(0, ⟨.ro, 110, insT l⟩), (1, ⟨.ro, 3, ints xs⟩), (2, ⟨.ro, 3, ints ys⟩), (256, ⟨.box, 55, [.v (.int .i64 a), .l 1 [] 0 xs.length, .l 2 [] 0 ys.length, .v (.int .i64 c)]⟩)]⟩
theorem run44 {j : Nat} (hj : big ≤ j) (l : List Ins) (a c : Int) (xs ys : List Int) (hl : l.length ≤ 1048576) (hx : xs.length ≤ 1048576) (hy : ys.length ≤ 1048576) :
    M.run (j + 3) 41 [.c (.r 110 l.length (insT l)), .agg (stR a xs ys c)] = some ([.c (.v (.bool (stOkB l.length a xs ys c)))], [.c (.r 110 l.length (insT l)), .agg (stR a xs ys c)]) := by
  rw [m_run (fn := Try.f41) (i0 := 0) rfl Try.func41 rfl rfl (by simp -implicitDefEqProofs [stR])]
  by_cases h1 : xs.length = 4
  · by_cases h2 : inB c 0 2 = true
    · by_cases h3 : inB a 0 (l.length - 1) = true
      · by_cases h4 : ys.length ≤ 60
        · simp -implicitDefEqProofs [stR, h1, own1, run61, h2, w64 (x := (l.length : Int) - 1) (by omega), h3, show ¬ (60 < (ys.length : Int)) by omega]
          rcases first_bad numB xs with hb | ⟨n, hn, hb, hg⟩
          · rw [loop_to (H44 l a c xs ys 5) 4 (by simp -implicitDefEqProofs [H44, hint1, h1]) (by simp -implicitDefEqProofs [big] at hj; omega) (fun i hi => by
              simp -implicitDefEqProofs [H44, hint1, show (i : Int) < 4 by omega, w64 (x := (i : Int) + 1) (by omega), h1, hi, run62, hb i (by omega), own1]) (by simp -implicitDefEqProofs [H44, stops, hint1])]
            simp -implicitDefEqProofs [H44, stops]
            rcases first_bad numB ys with hc | ⟨n, hn, hc, hg⟩
            · rw [loop_to (H44 l a c xs ys 6) ys.length (by simp -implicitDefEqProofs [H44, hint1, h1]) (by simp -implicitDefEqProofs [big] at hj; omega) (fun i hi => by
                simp -implicitDefEqProofs [H44, hint1, hi, w64 (x := (i : Int) + 1) (by omega), h1, run62, hc i (by omega), own1]) (by simp -implicitDefEqProofs [H44, stops, hint1])]
              simp -implicitDefEqProofs [H44, stR, h1, stOkB, h2, h3, h4, all_of hb, all_of hc]
            · rw [loop_to (H44 l a c xs ys 6) n (by simp -implicitDefEqProofs [H44, hint1, h1]) (by simp -implicitDefEqProofs [big] at hj; omega) (fun i hi => by
                simp -implicitDefEqProofs [H44, hint1, hi, show i < ys.length by omega, w64 (x := (i : Int) + 1) (by omega), h1, run62, hg i (by omega), own1]) (by simp -implicitDefEqProofs [H44, stops, hn, run62, hc, own1])]
              simp -implicitDefEqProofs [H44, stR, h1, stOkB, h2, h3, h4, all_of hb, not_all hn hc, hn, run62, hc, own1]
          · rw [loop_to (H44 l a c xs ys 5) n (by simp -implicitDefEqProofs [H44, hint1, h1]) (by simp -implicitDefEqProofs [big] at hj; omega) (fun i hi => by
              simp -implicitDefEqProofs [H44, hint1, show (i : Int) < 4 by omega, show i < 4 by omega, w64 (x := (i : Int) + 1) (by omega), h1, run62, hg i (by omega), own1]) (by simp -implicitDefEqProofs [H44, stops, show (n : Int) < 4 by omega, show n < 4 by omega, h1, run62, hb, own1])]
            simp -implicitDefEqProofs [H44, stR, h1, stOkB, h2, h3, h4, not_all hn hb, show (n : Int) < 4 by omega, show n < 4 by omega, run62, hb, own1]
        · simp -implicitDefEqProofs [stR, h1, own1, run61, h2, w64 (x := (l.length : Int) - 1) (by omega), h3, show (60 < (ys.length : Int)) by omega, stOkB, h4]
      · simp -implicitDefEqProofs [stR, h1, own1, run61, h2, w64 (x := (l.length : Int) - 1) (by omega), h3, stOkB]
    · simp -implicitDefEqProofs [stR, h1, own1, run61, h2, stOkB]
  · simp -implicitDefEqProofs [stR, h1, own1, stOkB, show ¬ (xs.length : Int) = 4 by omega]
end Go.Proofs.Ytbdidcfjaohglaa.VM
