/- ProgOk reckoned, and the laws FnExactInsOk and FnExactProgOk. -/
import Derived.Test.YtbdidcfjaohglaaFn7
import Derived.Test.YtbdidcfjaohglaaFn3
namespace Go.Proofs.Ytbdidcfjaohglaa.VM
open Go Go.Proofs
set_option linter.unusedSimpArgs false
set_option linter.unusedVariables false
set_option maxRecDepth 100000
set_option maxHeartbeats 4000000
attribute [simp] cLink
theorem run75 {j : Nat} (x : Ins) (n : Nat) (l : List T) (procs : Int) : M.run (j + 4) 111 [.agg (tIns x), .box 58 [.r 110 n l], .box 3 [.v (.int .i64 procs)]] = some ([.c (.v (.bool (!insB x n procs)))], [.agg (tIns x), .box 58 [.r 110 n l], .box 3 [.v (.int .i64 procs)]]) := by
  rw [m_run (fn := Try.f111) (i0 := 0) rfl Try.func111 rfl rfl (by simp [tIns])]
  have e3 := run29 (j := j) x n procs
  simp only [tIns] at e3
  simp -implicitDefEqProofs [tIns, own1, e3]
def H90 (xs : List Ins) (procs : Int) (i : Nat) : St := ⟨[(0, .c (.sl 0 [] 0 xs.length)), (1, .fn 111 [.ptr 2 [] 0, .ptr 3 [] 0]), (7, .c (.v (.int .i64 xs.length))), (8, .c (.v (.int .i64 i)))], [(0, ⟨.ro, 110, insT xs⟩), (1, ⟨.ro, 110, insT xs⟩), (2, ⟨.box, 58, [.l 1 [] 0 xs.length]⟩), (3, ⟨.box, 3, [.v (.int .i64 procs)]⟩)]⟩
def fn75 (xs : List Ins) (procs : Int) : A := .fn 111 [.box 58 [.r 110 xs.length (insT xs)], .box 3 [.v (.int .i64 procs)]]
theorem run90 {j : Nat} (hj : big ≤ j) (xs : List Ins) (procs : Int) (hl : xs.length ≤ 1048576) : ∃ n : Int, M.run (j + 5) 121 [.c (.r 110 xs.length (insT xs)), fn75 xs procs] = some ([.c (.v (.int .i64 n))], [.c (.r 110 xs.length (insT xs)), fn75 xs procs]) ∧ decide (0 ≤ n) = !xs.all fun x => insB x xs.length procs := by
  unfold fn75
  rcases first_bad (fun x => insB x xs.length procs) xs with hc | ⟨n, hn, hc, hg⟩
  · refine ⟨-1, ?_, by rw [all_of (p := fun x => insB x xs.length procs) hc]; rfl⟩
    rw [m_run (fn := Try.f121) (i0 := 0) rfl Try.func121 rfl rfl (by simp)]
    simp -implicitDefEqProofs
    rw [loop_to (H90 xs procs) xs.length (by simp -implicitDefEqProofs [H90, hint1]) (by simp [big] at hj; omega) (fun i hi => by
      have e := run75 (j := j) xs[i] xs.length (insT xs) procs
      rw [hc i hi] at e
      simp only [tIns] at e
      simp -implicitDefEqProofs [H90, hint1, hi, w64 (x := (i : Int) + 1) (by omega), show i * 5 + 5 ≤ xs.length * 5 by omega, tIns, e, own1]) (by simp -implicitDefEqProofs [H90, stops, hint1])]
    simp -implicitDefEqProofs [H90]
  · refine ⟨n, ?_, by rw [not_all (p := fun x => insB x xs.length procs) hn hc]; simp⟩
    rw [m_run (fn := Try.f121) (i0 := 0) rfl Try.func121 rfl rfl (by simp)]
    simp -implicitDefEqProofs
    have e := run75 (j := j) xs[n] xs.length (insT xs) procs
    rw [hc] at e
    simp only [tIns] at e
    rw [loop_to (H90 xs procs) n (by simp -implicitDefEqProofs [H90, hint1]) (by simp [big] at hj; omega) (fun i hi => by
      have e := run75 (j := j) (xs[i]'(by omega)) xs.length (insT xs) procs
      rw [hg i hi] at e
      simp only [tIns] at e
      simp -implicitDefEqProofs [H90, hint1, show i < xs.length by omega, w64 (x := (i : Int) + 1) (by omega), show i * 5 + 5 ≤ xs.length * 5 by omega, tIns, e, own1]) (by simp -implicitDefEqProofs [H90, stops, hn, e, show n * 5 + 5 ≤ xs.length * 5 by omega, tIns, own1])]
    simp -implicitDefEqProofs [H90, hn, e, own1, show n * 5 + 5 ≤ xs.length * 5 by omega, tIns]
theorem run74 {j : Nat} (hj : big ≤ j) (xs : List Ins) (procs : Int) (hl : xs.length ≤ 1048576) : M.run (j + 6) 110 [.c (.r 110 xs.length (insT xs)), fn75 xs procs] = some ([.c (.v (.bool (!xs.all fun x => insB x xs.length procs)))], [.c (.r 110 xs.length (insT xs)), fn75 xs procs]) := by
  obtain ⟨n, h1, h2⟩ := run90 hj xs procs hl
  unfold fn75 at *
  rw [m_run (fn := Try.f110) (i0 := 0) rfl Try.func110 rfl rfl (by simp)]
  simp -implicitDefEqProofs [h1, own1, ← h2]
def progB (xs : List Ins) (procs : Int) : Bool := inB xs.length 1 30 && xs.all fun x => insB x xs.length procs
theorem run50 {j : Nat} (hj : big ≤ j) (xs : List Ins) (procs : Int) (hl : xs.length ≤ 1048576) : M.run (j + 7) 86 [.c (.r 110 xs.length (insT xs)), .c (.v (.int .i64 procs))] = some ([.c (.v (.bool (progB xs procs)))], [.c (.r 110 xs.length (insT xs)), .c (.v (.int .i64 procs))]) := by
  rw [m_run (fn := Try.f86) (i0 := 0) rfl Try.func86 rfl rfl (by simp)]
  have e := run74 hj xs procs hl
  unfold fn75 at e
  unfold progB
  cases h : inB xs.length 1 30
  · simp -implicitDefEqProofs [run64, own1, h]
  · simp -implicitDefEqProofs [run64, own1, h, e, -List.all_eq_true, -List.all_eq_false]
def H49 (xs : List Ins) (procs : Int) (i : Nat) : St := ⟨[(0, .c (.sl 0 [] 0 xs.length)), (1, .c (.v (.int .i64 procs))), (5, .c (.v (.int .i64 i)))], [(0, ⟨.ro, 110, insT xs⟩)]⟩
theorem run49 {j : Nat} (hj : big ≤ j) (xs : List Ins) (procs : Int) (hl : xs.length ≤ 1048576) : M.run (j + 4) 92 [.c (.r 110 xs.length (insT xs)), .c (.v (.int .i64 procs))] = some ([.c (.v (.bool (progB xs procs)))], [.c (.r 110 xs.length (insT xs)), .c (.v (.int .i64 procs))]) := by
  rcases first_bad (fun x => insB x xs.length procs) xs with hc | ⟨n, hn, hc, hg⟩
  · have ha := all_of (p := fun x => insB x xs.length procs) hc
    have hpr : inB xs.length 1 30 = true → inB procs 1 4 = true := fun h => by
      have h0 : 0 < xs.length := by have := inB_le h; omega
      have := hc 0 h0
      simp [insB] at this
      exact this.1.1.1.1.2
    rw [m_run (fn := Try.f92) (i0 := 0) rfl Try.func92 rfl rfl (by simp)]
    simp -implicitDefEqProofs
    rw [loop_to (H49 xs procs) xs.length (by simp -implicitDefEqProofs [H49, hint1]) (by simp [big] at hj; omega) (fun i hi => by
      have e := run27 (j := j) xs[i] xs.length procs
      rw [spec_ins, hc i hi] at e
      simp only [tIns] at e
      simp -implicitDefEqProofs [H49, hint1, hi, w64 (x := (i : Int) + 1) (by omega), show i * 5 + 5 ≤ xs.length * 5 by omega, tIns, e, own1]) (by simp -implicitDefEqProofs [H49, stops, hint1])]
    unfold progB
    rw [ha]
    cases h : inB xs.length 1 30
    · simp -implicitDefEqProofs [H49, run61, own1, h]
    · simp -implicitDefEqProofs [H49, run61, own1, h, hpr h]
  · have ha := not_all (p := fun x => insB x xs.length procs) hn hc
    rw [m_run (fn := Try.f92) (i0 := 0) rfl Try.func92 rfl rfl (by simp)]
    simp -implicitDefEqProofs
    have e := run27 (j := j) xs[n] xs.length procs
    rw [spec_ins, hc] at e
    simp only [tIns] at e
    rw [loop_to (H49 xs procs) n (by simp -implicitDefEqProofs [H49, hint1]) (by simp [big] at hj; omega) (fun i hi => by
      have e := run27 (j := j) (xs[i]'(by omega)) xs.length procs
      rw [spec_ins, hg i hi] at e
      simp only [tIns] at e
      simp -implicitDefEqProofs [H49, hint1, show i < xs.length by omega, w64 (x := (i : Int) + 1) (by omega), show i * 5 + 5 ≤ xs.length * 5 by omega, tIns, e, own1]) (by simp -implicitDefEqProofs [H49, stops, hn, e, show n * 5 + 5 ≤ xs.length * 5 by omega, tIns, own1])]
    unfold progB
    rw [ha]
    simp -implicitDefEqProofs [H49, hn, e, own1, show n * 5 + 5 ≤ xs.length * 5 by omega, tIns]
end Go.Proofs.Ytbdidcfjaohglaa.VM
