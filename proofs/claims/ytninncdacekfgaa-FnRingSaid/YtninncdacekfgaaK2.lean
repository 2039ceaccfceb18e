/- Numbers, instructions, states: reckoned. -/
import Derived.Test.YtninncdacekfgaaK0
/- Rows of instructions, states: copied, compared, measured. -/
namespace Go.Proofs.Ytninncdacekfgaa.VM
open Go Go.Proofs
set_option linter.unusedSimpArgs false
set_option linter.unusedVariables false
set_option maxRecDepth 100000
def H71 (xs : List Int) (i : Nat) : St := ⟨[(0, .c (.sl 0 [] 0 xs.length)), (3, .c (.sl 512 [] 0 xs.length)), (4, .c (.v (.int .i64 i)))], [(0, ⟨.ro, 3, ints xs⟩), (512, ⟨.own, 3, ints (tp xs 0 i)⟩)]⟩
def insT (l : List Ins) : List T := l.flatMap tIns
theorem tIns_len (x : Ins) : (tIns x).length = 5 := rfl
@[simp] theorem insT_len (l : List Ins) : (insT l).length = l.length * 5 := fm_len tIns_len l
theorem insT_rep (n : Nat) : (List.replicate n [T.v (Value.int IntKind.i64 0), T.v (Value.int IntKind.i64 0), T.v (Value.int IntKind.i64 0), T.v (Value.int IntKind.i64 0), T.v (Value.int IntKind.i64 0)]).flatten = insT (List.replicate n ⟨0, 0, 0, 0, 0⟩) := fm_rep (tr := tIns) n ⟨0, 0, 0, 0, 0⟩
@[simp] theorem insT_take (l : List Ins) (n : Nat) : (insT l).take (n * 5) = insT (l.take n) := fm_take tIns_len l n
@[simp] theorem insT_drop (l : List Ins) (n : Nat) : (insT l).drop (n * 5) = insT (l.drop n) := fm_drop tIns_len l n
@[simp] theorem insT_at {l : List Ins} {i : Nat} (hi : i < l.length) : (insT (l.drop i)).take 5 = tIns l[i] := by rw [← insT_drop]; exact fm_at tIns_len hi
@[simp] theorem insT_v (l : List Ins) : allV (insT l) = true := fm_v (fun _ => rfl) l
@[simp] theorem insT_ros (l : List Ins) : ros (insT l) = insT l := fm_ros (fun _ => rfl) l
theorem insT_set {l : List Ins} {i : Nat} (hi : i < l.length) (x : Ins) : (((((insT l).set (i * 5) (.v (.int .i64 x.op))).set (i * 5 + 1) (.v (.int .i64 x.r))).set (i * 5 + 1 + 1) (.v (.int .i64 x.a))).set (i * 5 + 1 + 1 + 1) (.v (.int .i64 x.b))).set (i * 5 + 1 + 1 + 1 + 1) (.v (.int .i64 x.n)) = insT (l.set i x) := fm_set tIns_len hi x
def H48 (xs : List Ins) (i : Nat) : St := ⟨[(0, .c (.sl 0 [] 0 xs.length)), (1, .c (.sl 1 [] 0 xs.length)), (5, .c (.v (.int .i64 i)))], [(0, ⟨.ro, 40, insT xs⟩), (1, ⟨.ro, 40, insT xs⟩)]⟩
end Go.Proofs.Ytninncdacekfgaa.VM

/- Arguments of the laws: rows of numbers, of instructions; states. -/
namespace Go.Proofs.Ytninncdacekfgaa.VM
open Go Go.Proofs
set_option linter.unusedSimpArgs false
set_option linter.unusedVariables false
set_option maxRecDepth 100000
def i64 (n : Int) : Prop := -9223372036854775808 ≤ n ∧ n ≤ 9223372036854775807
theorem op3 : OpT Try.prog 3 (fun n : Int => [.v (.int .i64 n)]) i64 := opT_int Try.underlying3
theorem op25 : OpT Try.prog 25 (fun xs : List Int => [.r 3 xs.length (ints xs)]) (fun xs => (∀ n ∈ xs, i64 n) ∧ xs.length ≤ maxLen) := ⟨fun h => by
 obtain ⟨xs, R, h1, h2, h3⟩ := (opT_slice Try.underlying25 (by simp) op3).op h
 refine ⟨xs, R, ?_, h2, h3⟩
 have e : ∀ l : List Int, (l.flatMap fun n => [T.v (.int .i64 n)]) = ints l := fun l => by
  unfold ints
  rw [List.flatMap_def, List.flatten_eq_flatMap, List.flatMap_map]
  simp [List.map_eq_flatMap]
 rw [← e]
 exact h1⟩
def insOk (x : Ins) : Prop := i64 x.op ∧ i64 x.r ∧ i64 x.a ∧ i64 x.b ∧ i64 x.n
structure Sta where
 at_ : Int
 regs : List Int
 out : List Int
 code : Int
def tSta (s : Sta) : List T := stR s.at_ s.regs s.out s.code
def staOk (s : Sta) : Prop := i64 s.at_ ∧ ((∀ n ∈ s.regs, i64 n) ∧ s.regs.length ≤ maxLen) ∧ ((∀ n ∈ s.out, i64 n) ∧ s.out.length ≤ maxLen) ∧ i64 s.code
end Go.Proofs.Ytninncdacekfgaa.VM

/- Rows of instructions, marked. -/
namespace Go.Proofs.Ytninncdacekfgaa.VM
open Go Go.Proofs
set_option linter.unusedSimpArgs false
set_option linter.unusedVariables false
set_option maxRecDepth 100000
set_option maxHeartbeats 4000000
def insUp (k : Int) (n : Nat) : List Ins := (List.range n).map fun j : Nat => ⟨k + 5 * (j : Int), k + 5 * (j : Int) + 1, k + 5 * (j : Int) + 1 + 1, k + 5 * (j : Int) + 1 + 1 + 1, k + 5 * (j : Int) + 1 + 1 + 1 + 1⟩
@[simp] theorem insUp_len (k : Int) (n : Nat) : (insUp k n).length = n := by simp [insUp]
@[simp] theorem insUp_zero (k : Int) : insUp k 0 = [] := rfl
theorem insUp_succ (k : Int) (n : Nat) : insUp k (n + 1) = insUp k n ++ [⟨k + 5 * (n : Int), k + 5 * (n : Int) + 1, k + 5 * (n : Int) + 1 + 1, k + 5 * (n : Int) + 1 + 1 + 1, k + 5 * (n : Int) + 1 + 1 + 1 + 1⟩] := by simp [insUp, List.range_succ]
def H_markInsS (k : Int) (l : List Ins) (i : Nat) : St := ⟨[(0, .c (.sl 0 [] 0 l.length)), (1, .c (.v (.int .i64 (k + 5 * i)))), (5, .c (.v (.int .i64 i)))], [(0, ⟨.own, 40, insT (insUp k i ++ l.drop i)⟩)]⟩
end Go.Proofs.Ytninncdacekfgaa.VM

/- StateOk of the specification, and of the program. -/
namespace Go.Proofs.Ytninncdacekfgaa.VM
open Go Go.Proofs
set_option linter.unusedSimpArgs false
set_option linter.unusedVariables false
set_option maxRecDepth 100000
def stOkB (n : Nat) (a : Int) (xs ys : List Int) (c : Int) : Bool := decide (xs.length = 4) && inB c 0 2 && inB a 0 ((n : Int) - 1) && decide (ys.length ≤ 60) && xs.all numB && ys.all numB
def H44 (l : List Ins) (a c : Int) (xs ys : List Int) (t i : Nat) : St := ⟨[(0, .c (.sl 0 [] 0 l.length)), (3, .ptr 256 [] 0), (t, .c (.v (.int .i64 i)))], [(0, ⟨.ro, 40, insT l⟩), (1, ⟨.ro, 3, ints xs⟩), (2, ⟨.ro, 3, ints ys⟩), (256, ⟨.box, 27, [.v (.int .i64 a), .l 1 [] 0 xs.length, .l 2 [] 0 ys.length, .v (.int .i64 c)]⟩)]⟩
theorem run44 {j : Nat} (hj : big ≤ j) (l : List Ins) (a c : Int) (xs ys : List Int) (hl : l.length ≤ 1048576) (hx : xs.length ≤ 1048576) (hy : ys.length ≤ 1048576) :
  M.run (j + 3) 13 [.c (.r 40 l.length (insT l)), .agg (stR a xs ys c)] = some ([.c (.v (.bool (stOkB l.length a xs ys c)))], [.c (.r 40 l.length (insT l)), .agg (stR a xs ys c)]) := by
 rw [m_run (fn := Try.f13) (i0 := 0) rfl Try.func13 rfl rfl (by simp -implicitDefEqProofs [stR])]
 by_cases h1 : xs.length = 4
 ·by_cases h2 : inB c 0 2 = true
  ·by_cases h3 : inB a 0 (l.length - 1) = true
   ·by_cases h4 : ys.length ≤ 60
    ·simp -implicitDefEqProofs [stR, h1, own1, run61, h2, w64 (x := (l.length : Int) - 1) (by omega), h3, show ¬ (60 < (ys.length : Int)) by omega]
     rcases first_bad numB xs with hb | ⟨n, hn, hb, hg⟩
     ·rw [loop_to (H44 l a c xs ys 5) 4 (by simp -implicitDefEqProofs [H44, hint1, h1]) (by simp -implicitDefEqProofs [big] at hj; omega) (fun i hi => by
       simp -implicitDefEqProofs [H44, hint1, show (i : Int) < 4 by omega, w64 (x := (i : Int) + 1) (by omega), h1, hi, run62, hb i (by omega), own1]) (by simp -implicitDefEqProofs [H44, stops, hint1])]
      simp -implicitDefEqProofs [H44, stops]
      rcases first_bad numB ys with hc | ⟨n, hn, hc, hg⟩
      ·rw [loop_to (H44 l a c xs ys 6) ys.length (by simp -implicitDefEqProofs [H44, hint1, h1]) (by simp -implicitDefEqProofs [big] at hj; omega) (fun i hi => by
        simp -implicitDefEqProofs [H44, hint1, hi, w64 (x := (i : Int) + 1) (by omega), h1, run62, hc i (by omega), own1]) (by simp -implicitDefEqProofs [H44, stops, hint1])]
       simp -implicitDefEqProofs [H44, stR, h1, stOkB, h2, h3, h4, all_of hb, all_of hc]
      ·rw [loop_to (H44 l a c xs ys 6) n (by simp -implicitDefEqProofs [H44, hint1, h1]) (by simp -implicitDefEqProofs [big] at hj; omega) (fun i hi => by
        simp -implicitDefEqProofs [H44, hint1, hi, show i < ys.length by omega, w64 (x := (i : Int) + 1) (by omega), h1, run62, hg i (by omega), own1]) (by simp -implicitDefEqProofs [H44, stops, hn, run62, hc, own1])]
       simp -implicitDefEqProofs [H44, stR, h1, stOkB, h2, h3, h4, all_of hb, not_all hn hc, hn, run62, hc, own1]
     ·rw [loop_to (H44 l a c xs ys 5) n (by simp -implicitDefEqProofs [H44, hint1, h1]) (by simp -implicitDefEqProofs [big] at hj; omega) (fun i hi => by
       simp -implicitDefEqProofs [H44, hint1, show (i : Int) < 4 by omega, show i < 4 by omega, w64 (x := (i : Int) + 1) (by omega), h1, run62, hg i (by omega), own1]) (by simp -implicitDefEqProofs [H44, stops, show (n : Int) < 4 by omega, show n < 4 by omega, h1, run62, hb, own1])]
      simp -implicitDefEqProofs [H44, stR, h1, stOkB, h2, h3, h4, not_all hn hb, show (n : Int) < 4 by omega, show n < 4 by omega, run62, hb, own1]
    ·simp -implicitDefEqProofs [stR, h1, own1, run61, h2, w64 (x := (l.length : Int) - 1) (by omega), h3, show (60 < (ys.length : Int)) by omega, stOkB, h4]
   ·simp -implicitDefEqProofs [stR, h1, own1, run61, h2, w64 (x := (l.length : Int) - 1) (by omega), h3, stOkB]
  ·simp -implicitDefEqProofs [stR, h1, own1, run61, h2, stOkB]
 ·simp -implicitDefEqProofs [stR, h1, own1, stOkB, show ¬ (xs.length : Int) = 4 by omega]
end Go.Proofs.Ytninncdacekfgaa.VM

/- StateOk: the program's, and the law. -/
namespace Go.Proofs.Ytninncdacekfgaa.VM
open Go Go.Proofs
set_option linter.unusedSimpArgs false
set_option linter.unusedVariables false
set_option maxRecDepth 100000
theorem run89 {j : Nat} (n : Int) : M.run (j + 3) 67 [.c (.v (.int .i64 n))] = some ([.c (.v (.bool (!numB n)))], [.c (.v (.int .i64 n))]) := by
 rw [m_run (fn := Try.f67) (i0 := 0) rfl Try.func67 rfl rfl (by simp)]
 simp -implicitDefEqProofs [run67, own1]
def H95 (xs : List Int) (i : Nat) : St := ⟨[(0, .c (.sl 0 [] 0 xs.length)), (1, .fn 67 []), (7, .c (.v (.int .i64 xs.length))), (8, .c (.v (.int .i64 i)))], [(0, ⟨.ro, 3, ints xs⟩)]⟩
theorem run95 {j : Nat} (hj : big ≤ j) (xs : List Int) (hl : xs.length ≤ 1048576) : ∃ n : Int, M.run (j + 4) 92 [.c (.r 3 xs.length (ints xs)), .fn 67 []] = some ([.c (.v (.int .i64 n))], [.c (.r 3 xs.length (ints xs)), .fn 67 []]) ∧ decide (0 ≤ n) = !xs.all numB := by
 rcases first_bad numB xs with hc | ⟨n, hn, hc, hg⟩
 ·refine ⟨-1, ?_, by simp [all_of hc]⟩
  rw [m_run (fn := Try.f92) (i0 := 0) rfl Try.func92 rfl rfl (by simp)]
  simp -implicitDefEqProofs
  rw [loop_to (H95 xs) xs.length (by simp -implicitDefEqProofs [H95, hint1]) (by simp [big] at hj; omega) (fun i hi => by
   simp -implicitDefEqProofs [H95, hint1, hi, w64 (x := (i : Int) + 1) (by omega), run89, hc i hi, own1]) (by simp -implicitDefEqProofs [H95, stops, hint1])]
  simp -implicitDefEqProofs [H95]
 ·refine ⟨n, ?_, by simp [not_all hn hc]⟩
  rw [m_run (fn := Try.f92) (i0 := 0) rfl Try.func92 rfl rfl (by simp)]
  simp -implicitDefEqProofs
  rw [loop_to (H95 xs) n (by simp -implicitDefEqProofs [H95, hint1]) (by simp [big] at hj; omega) (fun i hi => by
   simp -implicitDefEqProofs [H95, hint1, show i < xs.length by omega, w64 (x := (i : Int) + 1) (by omega), run89, hg i hi, own1]) (by simp -implicitDefEqProofs [H95, stops, hn, run89, hc, own1])]
  simp -implicitDefEqProofs [H95, hn, run89, hc, own1]
theorem run88 {j : Nat} (hj : big ≤ j) (xs : List Int) (hl : xs.length ≤ 1048576) : M.run (j + 5) 66 [.c (.r 3 xs.length (ints xs)), .fn 67 []] = some ([.c (.v (.bool (!xs.all numB)))], [.c (.r 3 xs.length (ints xs)), .fn 67 []]) := by
 obtain ⟨n, h1, h2⟩ := run95 hj xs hl
 rw [m_run (fn := Try.f66) (i0 := 0) rfl Try.func66 rfl rfl (by simp)]
 simp -implicitDefEqProofs [h1, own1, ← h2]
theorem run72 {j : Nat} (hj : big ≤ j) (xs : List Int) (hl : xs.length ≤ 1048576) : M.run (j + 6) 37 [.c (.r 3 xs.length (ints xs))] = some ([.c (.v (.bool (xs.all numB)))], [.c (.r 3 xs.length (ints xs))]) := by
 rw [m_run (fn := Try.f37) (i0 := 0) rfl Try.func37 rfl rfl (by simp)]
 simp -implicitDefEqProofs [run88 hj xs hl, own1]
theorem run47 {j : Nat} (hj : big ≤ j) (l : List Ins) (a c : Int) (xs ys : List Int) (hl : l.length ≤ 1048576) (hx : xs.length ≤ 1048576) (hy : ys.length ≤ 1048576) :
  M.run (j + 7) 12 [.c (.r 40 l.length (insT l)), .agg (stR a xs ys c)] = some ([.c (.v (.bool (stOkB l.length a xs ys c)))], [.c (.r 40 l.length (insT l)), .agg (stR a xs ys c)]) := by
 rw [m_run (fn := Try.f12) (i0 := 0) rfl Try.func12 rfl rfl (by simp [stR])]
 by_cases h1 : xs.length = 4
 ·by_cases h1' : xs.all numB = true
  ·by_cases h2 : inB c 0 2 = true
   ·by_cases h3 : inB a 0 (l.length - 1) = true
    ·by_cases h4 : ys.length ≤ 60
     ·rw [show stOkB l.length a xs ys c = ys.all numB by simp [stOkB, h1, h1', h2, h3, h4, -List.all_eq_true]]
      simp -implicitDefEqProofs [stR, show (xs.length : Int) = 4 by omega, own1, run64, run72 hj xs hx, run72 hj ys hy, h1', h2, w64 (x := (l.length : Int) - 1) (by omega), h3, show (ys.length : Int) ≤ 60 by omega]
     ·rw [show stOkB l.length a xs ys c = false by simp [stOkB, h1, h1', h2, h3, h4]]
      simp -implicitDefEqProofs [stR, show (xs.length : Int) = 4 by omega, own1, run64, run72 hj xs hx, h1', h2, w64 (x := (l.length : Int) - 1) (by omega), h3, show ¬ (ys.length : Int) ≤ 60 by omega]
    ·rw [show stOkB l.length a xs ys c = false by simp [stOkB, h1, h1', h2, h3]]
     simp -implicitDefEqProofs [stR, show (xs.length : Int) = 4 by omega, own1, run64, run72 hj xs hx, h1', h2, w64 (x := (l.length : Int) - 1) (by omega), h3]
   ·rw [show stOkB l.length a xs ys c = false by simp [stOkB, h1, h1', h2]]
    simp -implicitDefEqProofs [stR, show (xs.length : Int) = 4 by omega, own1, run64, run72 hj xs hx, h1', h2]
  ·rw [show stOkB l.length a xs ys c = false by simp [stOkB, h1, h1']]
   simp -implicitDefEqProofs [stR, show (xs.length : Int) = 4 by omega, own1, run64, run72 hj xs hx, h1']
 ·rw [show stOkB l.length a xs ys c = false by simp [stOkB, h1]]
  simp -implicitDefEqProofs [stR, own1, show ¬ (xs.length : Int) = 4 by omega]
end Go.Proofs.Ytninncdacekfgaa.VM
