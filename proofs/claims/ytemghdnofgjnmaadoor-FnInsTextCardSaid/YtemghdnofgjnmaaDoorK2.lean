/- Numbers, instructions, states: reckoned. -/
import Derived.Test.YtemghdnofgjnmaaDoorK0
/- Rows of instructions, states: copied, compared, measured. -/
namespace Go.Proofs.YtemghdnofgjnmaaDoor.VM
open Go Go.Proofs
set_option linter.unusedSimpArgs false
set_option linter.unusedVariables false
set_option maxRecDepth 100000
def H71 (xs : List Int) (i : Nat) : St := ⟨[(0, .c (.sl 0 [] 0 xs.length)), (3, .c (.sl 512 [] 0 xs.length)), (4, .c (.v (.int .i64 i)))], [(0, ⟨.ro, 3, ints xs⟩), (512, ⟨.own, 3, ints (tp xs 0 i)⟩)]⟩
def insT (l : List Ins) : List T := l.flatMap tIns
theorem tIns_len (x : Ins) : (tIns x).length = 5 := rfl
@[simp] theorem insT_len (l : List Ins) : (insT l).length = l.length * 5 := fm_len tIns_len l
theorem insT_rep (n : Nat) : (List.replicate n [T.v (Value.int IntKind.i64 0), T.v (Value.int IntKind.i64 0), T.v (Value.int IntKind.i64 0), T.v (Value.int IntKind.i64 0), T.v (Value.int IntKind.i64 0)]).flatten = insT (List.replicate n ⟨0, 0, 0, 0, 0⟩) := fm_rep (tr := tIns) n ⟨0, 0, 0, 0, 0⟩
@[simp] theorem insT_take (l : List Ins) (n : Nat) : (insT l).take (n * 5) = insT (l.take n) := fm_take tIns_len l n
@[simp] theorem insT_drop (l : List Ins) (n : Nat) : (insT l).drop (n * 5) = insT (l.drop n) := fm_drop tIns_len l n
@[simp] theorem insT_at {l : List Ins} {i : Nat} (hi : i < l.length) : (insT (l.drop i)).take 5 = tIns l[i] := by rw [← insT_drop]; exact fm_at tIns_len hi
@[simp] theorem insT_v (l : List Ins) : allV (insT l) = true := fm_v (fun _ => rfl) l
@[simp] theorem insT_ros (l : List Ins) : ros (insT l) = insT l := fm_ros (fun _ => rfl) l
theorem insT_set {l : List Ins} {i : Nat} (hi : i < l.length) (x : Ins) : (((((insT l).set (i * 5) (.v (.int .i64 x.op))).set (i * 5 + 1) (.v (.int .i64 x.r))).set (i * 5 + 1 + 1) (.v (.int .i64 x.a))).set (i * 5 + 1 + 1 + 1) (.v (.int .i64 x.b))).set (i * 5 + 1 + 1 + 1 + 1) (.v (.int .i64 x.n)) = insT (l.set i x) := fm_set tIns_len hi x
theorem run73 {j : Nat} (o r a b n : Int) : M.run (j + 1) 7 [.agg [.v (.int .i64 o), .v (.int .i64 r), .v (.int .i64 a), .v (.int .i64 b), .v (.int .i64 n)], .agg [.v (.int .i64 o), .v (.int .i64 r), .v (.int .i64 a), .v (.int .i64 b), .v (.int .i64 n)]] = some ([.c (.v (.bool true))], [.agg [.v (.int .i64 o), .v (.int .i64 r), .v (.int .i64 a), .v (.int .i64 b), .v (.int .i64 n)], .agg [.v (.int .i64 o), .v (.int .i64 r), .v (.int .i64 a), .v (.int .i64 b), .v (.int .i64 n)]]) := by
 rw [m_run (fn := Tryd.f7) (i0 := 0) rfl Tryd.func7 rfl rfl (by simp)]
 simp -implicitDefEqProofs
def H48 (xs : List Ins) (i : Nat) : St := ⟨[(0, .c (.sl 0 [] 0 xs.length)), (1, .c (.sl 1 [] 0 xs.length)), (5, .c (.v (.int .i64 i)))], [(0, ⟨.ro, 23, insT xs⟩), (1, ⟨.ro, 23, insT xs⟩)]⟩
end Go.Proofs.YtemghdnofgjnmaaDoor.VM

/- Arguments of the laws: rows of numbers, of instructions; states. -/
namespace Go.Proofs.YtemghdnofgjnmaaDoor.VM
open Go Go.Proofs
set_option linter.unusedSimpArgs false
set_option linter.unusedVariables false
set_option maxRecDepth 100000
def i64 (n : Int) : Prop := -9223372036854775808 ≤ n ∧ n ≤ 9223372036854775807
theorem op3 : OpT Tryd.prog 3 (fun n : Int => [.v (.int .i64 n)]) i64 := opT_int Tryd.underlying3
theorem op37 : OpT Tryd.prog 37 (fun xs : List Int => [.r 3 xs.length (ints xs)]) (fun xs => (∀ n ∈ xs, i64 n) ∧ xs.length ≤ maxLen) := ⟨fun h => by
 obtain ⟨xs, R, h1, h2, h3⟩ := (opT_slice Tryd.underlying37 (by simp) op3).op h
 refine ⟨xs, R, ?_, h2, h3⟩
 have e : ∀ l : List Int, (l.flatMap fun n => [T.v (.int .i64 n)]) = ints l := fun l => by
  unfold ints
  rw [List.flatMap_def, List.flatten_eq_flatMap, List.flatMap_map]
  simp [List.map_eq_flatMap]
 rw [← e]
 exact h1⟩
def insOk (x : Ins) : Prop := i64 x.op ∧ i64 x.r ∧ i64 x.a ∧ i64 x.b ∧ i64 x.n
structure Sta where
 at_ : Int
 regs : List Int
 out : List Int
 code : Int
def tSta (s : Sta) : List T := stR s.at_ s.regs s.out s.code
def staOk (s : Sta) : Prop := i64 s.at_ ∧ ((∀ n ∈ s.regs, i64 n) ∧ s.regs.length ≤ maxLen) ∧ ((∀ n ∈ s.out, i64 n) ∧ s.out.length ≤ maxLen) ∧ i64 s.code
end Go.Proofs.YtemghdnofgjnmaaDoor.VM

/- Rows of instructions, marked. -/
namespace Go.Proofs.YtemghdnofgjnmaaDoor.VM
open Go Go.Proofs
set_option linter.unusedSimpArgs false
set_option linter.unusedVariables false
set_option maxRecDepth 100000
set_option maxHeartbeats 4000000
def insUp (k : Int) (n : Nat) : List Ins := (List.range n).map fun j : Nat => ⟨k + 5 * (j : Int), k + 5 * (j : Int) + 1, k + 5 * (j : Int) + 1 + 1, k + 5 * (j : Int) + 1 + 1 + 1, k + 5 * (j : Int) + 1 + 1 + 1 + 1⟩
@[simp] theorem insUp_len (k : Int) (n : Nat) : (insUp k n).length = n := by simp [insUp]
@[simp] theorem insUp_zero (k : Int) : insUp k 0 = [] := rfl
theorem insUp_succ (k : Int) (n : Nat) : insUp k (n + 1) = insUp k n ++ [⟨k + 5 * (n : Int), k + 5 * (n : Int) + 1, k + 5 * (n : Int) + 1 + 1, k + 5 * (n : Int) + 1 + 1 + 1, k + 5 * (n : Int) + 1 + 1 + 1 + 1⟩] := by simp [insUp, List.range_succ]
def H_markInsS (k : Int) (l : List Ins) (i : Nat) : St := ⟨[(0, .c (.sl 0 [] 0 l.length)), (1, .c (.v (.int .i64 (k + 5 * i)))), (5, .c (.v (.int .i64 i)))], [(0, ⟨.own, 23, insT (insUp k i ++ l.drop i)⟩)]⟩
end Go.Proofs.YtemghdnofgjnmaaDoor.VM

/- StateOk of the specification, and of the program. -/
namespace Go.Proofs.YtemghdnofgjnmaaDoor.VM
open Go Go.Proofs
set_option linter.unusedSimpArgs false
set_option linter.unusedVariables false
set_option maxRecDepth 100000
def stOkB (n : Nat) (a : Int) (xs ys : List Int) (c : Int) : Bool := decide (xs.length = 4) && inB c 0 2 && inB a 0 ((n : Int) - 1) && decide (ys.length ≤ 60) && xs.all numB && ys.all numB
end Go.Proofs.YtemghdnofgjnmaaDoor.VM

/- StateOk: the program's, and the law. -/
namespace Go.Proofs.YtemghdnofgjnmaaDoor.VM
open Go Go.Proofs
set_option linter.unusedSimpArgs false
set_option linter.unusedVariables false
set_option maxRecDepth 100000
end Go.Proofs.YtemghdnofgjnmaaDoor.VM
