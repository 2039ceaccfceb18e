/- Numbers, instructions, states: reckoned. -/
import Derived.Test.YtkgkbkpgpbpjhaaGreatK0
/- Rows of instructions, states: copied, compared, measured. -/
namespace Go.Proofs.YtkgkbkpgpbpjhaaGreat.VM
open Go Go.Proofs
set_option linter.unusedSimpArgs false
set_option linter.unusedVariables false
set_option maxRecDepth 100000
def H71 (xs : List Int) (i : Nat) : St := ⟨[(0, .c (.sl 0 [] 0 xs.length)), (3, .c (.sl 512 [] 0 xs.length)), (4, .c (.v (.int .i64 i)))], [(0, ⟨.ro, 3, ints xs⟩), (512, ⟨.own, 3, ints (tp xs 0 i)⟩)]⟩
theorem run71 {j : Nat} (hj : big ≤ j) (xs : List Int) (hl : xs.length ≤ 1048576) :
  M.run (j + 1) 79 [.c (.r 3 xs.length (ints xs))] = some ([.c (.s 3 xs.length (ints xs))], [.c (.r 3 xs.length (ints xs))]) := by
 rw [m_run (fn := Tryz.f79) (i0 := 0) rfl Tryz.func79 rfl rfl (by simp)]
 simp -implicitDefEqProofs [le_most hl, ints_rep]
 rw [loop_up (H71 xs) xs.length (.exit 0) ⟨ins (ins (ins (ins (H71 xs xs.length).t 8 (.c (.v (.int .i64 xs.length)))) 9 (.c (.sl 0 [] 0 xs.length))) 10 (.c (.v (.int .i64 xs.length)))) 11 (.c (.v (.bool false))), (H71 xs xs.length).o⟩ (by simp) (by simp -implicitDefEqProofs [H71, hint1]) (by simp -implicitDefEqProofs [big] at hj; omega)]
 ·simp -implicitDefEqProofs [H71]
 ·intro i hi
  simp -implicitDefEqProofs [H71, hint1, hi, w64 (x := (i : Int) + 1) (by omega), show i + 1 ≤ xs.length by omega]
 ·simp -implicitDefEqProofs [H71]
def insT (l : List Ins) : List T := l.flatMap tIns
theorem tIns_len (x : Ins) : (tIns x).length = 5 := rfl
@[simp] theorem insT_len (l : List Ins) : (insT l).length = l.length * 5 := fm_len tIns_len l
theorem insT_rep (n : Nat) : (List.replicate n [T.v (Value.int IntKind.i64 0), T.v (Value.int IntKind.i64 0), T.v (Value.int IntKind.i64 0), T.v (Value.int IntKind.i64 0), T.v (Value.int IntKind.i64 0)]).flatten = insT (List.replicate n ⟨0, 0, 0, 0, 0⟩) := fm_rep (tr := tIns) n ⟨0, 0, 0, 0, 0⟩
@[simp] theorem insT_take (l : List Ins) (n : Nat) : (insT l).take (n * 5) = insT (l.take n) := fm_take tIns_len l n
@[simp] theorem insT_drop (l : List Ins) (n : Nat) : (insT l).drop (n * 5) = insT (l.drop n) := fm_drop tIns_len l n
@[simp] theorem insT_at {l : List Ins} {i : Nat} (hi : i < l.length) : (insT (l.drop i)).take 5 = tIns l[i] := by rw [← insT_drop]; exact fm_at tIns_len hi
theorem run28x {j : Nat} (o r a b n : Int) : M.run (j + 1) 243 [.agg [.v (.int .i64 o), .v (.int .i64 r), .v (.int .i64 a), .v (.int .i64 b), .v (.int .i64 n)]] = some ([.agg [.v (.int .i64 o), .v (.int .i64 r), .v (.int .i64 a), .v (.int .i64 b), .v (.int .i64 n)]], [.agg [.v (.int .i64 o), .v (.int .i64 r), .v (.int .i64 a), .v (.int .i64 b), .v (.int .i64 n)]]) := run28 ⟨o, r, a, b, n⟩
@[simp] theorem insT_v (l : List Ins) : allV (insT l) = true := fm_v (fun _ => rfl) l
@[simp] theorem insT_ros (l : List Ins) : ros (insT l) = insT l := fm_ros (fun _ => rfl) l
theorem insT_set {l : List Ins} {i : Nat} (hi : i < l.length) (x : Ins) : (((((insT l).set (i * 5) (.v (.int .i64 x.op))).set (i * 5 + 1) (.v (.int .i64 x.r))).set (i * 5 + 1 + 1) (.v (.int .i64 x.a))).set (i * 5 + 1 + 1 + 1) (.v (.int .i64 x.b))).set (i * 5 + 1 + 1 + 1 + 1) (.v (.int .i64 x.n)) = insT (l.set i x) := fm_set tIns_len hi x
def H45 (xs : List Ins) (i : Nat) : St := ⟨[(0, .c (.sl 0 [] 0 xs.length)), (3, .c (.sl 512 [] 0 xs.length)), (4, .c (.v (.int .i64 i)))], [(0, ⟨.ro, 207, insT xs⟩), (512, ⟨.own, 116, insT (tp xs ⟨0,0,0,0,0⟩ i)⟩)]⟩
theorem run45 {j : Nat} (hj : big ≤ j) (xs : List Ins) (hl : xs.length ≤ 1048576) :
  M.run (j + 2) 206 [.c (.r 207 xs.length (insT xs))] = some ([.c (.s 116 xs.length (insT xs))], [.c (.r 207 xs.length (insT xs))]) := by
 rw [m_run (fn := Tryz.f206) (i0 := 0) rfl Tryz.func206 rfl rfl (by simp)]
 simp -implicitDefEqProofs [le_most hl, insT_rep]
 rw [loop_up (H45 xs) xs.length (.exit 0) ⟨ins (ins (ins (ins (H45 xs xs.length).t 8 (.c (.v (.int .i64 xs.length)))) 9 (.c (.sl 0 [] 0 xs.length))) 10 (.c (.v (.int .i64 xs.length)))) 11 (.c (.v (.bool false))), (H45 xs xs.length).o⟩ (by simp) (by simp -implicitDefEqProofs [H45, hint1]) (by simp -implicitDefEqProofs [big] at hj; omega)]
 ·simp -implicitDefEqProofs [H45]
 ·intro i hi
  simp -implicitDefEqProofs [H45, hint1, hi, w64 (x := (i : Int) + 1) (by omega), show i * 5 + 1 ≤ xs.length * 5 by omega, show i * 5 + 5 ≤ xs.length * 5 by omega, hi, tIns, run28x, insT_set (l := tp xs ⟨0,0,0,0,0⟩ i) (by simpa using hi)]
  done
 ·simp -implicitDefEqProofs [H45]
theorem run70 {j : Nat} (n : Nat) (l : List T) (k : Int) (hn : n ≤ 9223372036854775807) (hk : 0 ≤ k ∧ k ≤ 1048576) :
  M.run (j + 1) 242 [.c (.r 3 n l), .c (.v (.int .i64 k))] = some ([.c (.v (.int .i64 (if k - n < 0 then -1 else k - n)))], [.c (.r 3 n l), .c (.v (.int .i64 k))]) := by
 rw [m_run (fn := Tryz.f242) (i0 := 0) rfl Tryz.func242 rfl rfl (by simp)]
 by_cases h : k - n < 0 <;> simp -implicitDefEqProofs [h, w64 (x := k - n) (by omega)]
theorem run42 {j : Nat} (n : Nat) (l : List T) (k : Int) (hn : n ≤ 9223372036854775807) (hk : 0 ≤ k ∧ k ≤ 1048576) :
  M.run (j + 1) 202 [.c (.r 207 n l), .c (.v (.int .i64 k))] = some ([.c (.v (.int .i64 (if k - n < 0 then -1 else k - n)))], [.c (.r 207 n l), .c (.v (.int .i64 k))]) := by
 rw [m_run (fn := Tryz.f202) (i0 := 0) rfl Tryz.func202 rfl rfl (by simp)]
 by_cases h : k - n < 0 <;> simp -implicitDefEqProofs [h, w64 (x := k - n) (by omega)]
theorem run43 {j : Nat} (a c : Int) (xs ys : List Int) (k : Int) (hx : xs.length ≤ 9223372036854775807) (hy : ys.length ≤ 9223372036854775807) (hk : 0 ≤ k ∧ k ≤ 1048576) :
  M.run (j + 2) 203 [.agg (stR a xs ys c), .c (.v (.int .i64 k))] = some ([.c (.v (.int .i64 (if k - xs.length < 0 then -1 else if k - xs.length - ys.length < 0 then -1 else k - xs.length - ys.length)))], [.agg (stR a xs ys c), .c (.v (.int .i64 k))]) := by
 rw [m_run (fn := Tryz.f203) (i0 := 0) rfl Tryz.func203 rfl rfl (by simp -implicitDefEqProofs [stR])]
 by_cases h : k - xs.length < 0
 ·simp -implicitDefEqProofs [h, stR, own1, run70 xs.length _ k hx hk]
 ·by_cases h2 : k - xs.length - ys.length < 0
  ·simp -implicitDefEqProofs [h, h2, stR, own1, run70 xs.length _ k hx hk, run70 ys.length _ (k - xs.length) hy (by omega)]
  ·simp -implicitDefEqProofs [h, h2, stR, own1, run70 xs.length _ k hx hk, run70 ys.length _ (k - xs.length) hy (by omega)]
theorem run46 {j : Nat} (hj : big ≤ j) (a c : Int) (xs ys : List Int) (hx : xs.length ≤ 1048576) (hy : ys.length ≤ 1048576) :
  M.run (j + 2) 207 [.agg (stR a xs ys c)] = some ([.agg (stS a xs ys c)], [.agg (stR a xs ys c)]) := by
 rw [m_run (fn := Tryz.f207) (i0 := 0) rfl Tryz.func207 rfl rfl (by simp -implicitDefEqProofs [stR])]
 simp -implicitDefEqProofs [stR, stS, own1, run71 hj xs hx, run71 hj ys hy]
theorem run73 {j : Nat} (o r a b n : Int) : M.run (j + 1) 246 [.agg [.v (.int .i64 o), .v (.int .i64 r), .v (.int .i64 a), .v (.int .i64 b), .v (.int .i64 n)], .agg [.v (.int .i64 o), .v (.int .i64 r), .v (.int .i64 a), .v (.int .i64 b), .v (.int .i64 n)]] = some ([.c (.v (.bool true))], [.agg [.v (.int .i64 o), .v (.int .i64 r), .v (.int .i64 a), .v (.int .i64 b), .v (.int .i64 n)], .agg [.v (.int .i64 o), .v (.int .i64 r), .v (.int .i64 a), .v (.int .i64 b), .v (.int .i64 n)]]) := by
 rw [m_run (fn := Tryz.f246) (i0 := 0) rfl Tryz.func246 rfl rfl (by simp)]
 simp -implicitDefEqProofs
def H48 (xs : List Ins) (i : Nat) : St := ⟨[(0, .c (.sl 0 [] 0 xs.length)), (1, .c (.sl 1 [] 0 xs.length)), (5, .c (.v (.int .i64 i)))], [(0, ⟨.ro, 116, insT xs⟩), (1, ⟨.ro, 116, insT xs⟩)]⟩
theorem run48 {j : Nat} (hj : big ≤ j) (xs : List Ins) (hl : xs.length ≤ 4611686018427387904) :
  M.run (j + 2) 210 [.c (.r 116 xs.length (insT xs)), .c (.r 116 xs.length (insT xs))] = some ([.c (.v (.bool true))], [.c (.r 116 xs.length (insT xs)), .c (.r 116 xs.length (insT xs))]) := by
 rw [m_run (fn := Tryz.f210) (i0 := 0) rfl Tryz.func210 rfl rfl (by simp)]
 simp -implicitDefEqProofs
 rw [loop_up (H48 xs) xs.length (.exit 0) ⟨ins (ins (ins (ins (H48 xs xs.length).t 11 (.c (.v (.int .i64 xs.length)))) 12 (.c (.sl 0 [] 0 xs.length))) 13 (.c (.v (.int .i64 xs.length)))) 14 (.c (.v (.bool false))), (H48 xs xs.length).o⟩ (by simp) (by simp -implicitDefEqProofs [H48, hint1]) (by simp -implicitDefEqProofs [big] at hj; omega)]
 ·simp -implicitDefEqProofs [H48]
 ·intro i hi
  simp -implicitDefEqProofs [H48, hint1, hi, w64 (x := (i : Int) + 1) (by omega), tIns, run73, own1]
 ·simp -implicitDefEqProofs [H48]
end Go.Proofs.YtkgkbkpgpbpjhaaGreat.VM

/- Arguments of the laws: rows of numbers, of instructions; states. -/
namespace Go.Proofs.YtkgkbkpgpbpjhaaGreat.VM
open Go Go.Proofs
set_option linter.unusedSimpArgs false
set_option linter.unusedVariables false
set_option maxRecDepth 100000
def i64 (n : Int) : Prop := -9223372036854775808 ≤ n ∧ n ≤ 9223372036854775807
theorem op3 : OpT Tryz.prog 3 (fun n : Int => [.v (.int .i64 n)]) i64 := opT_int Tryz.underlying3
theorem op37 : OpT Tryz.prog 37 (fun xs : List Int => [.r 3 xs.length (ints xs)]) (fun xs => (∀ n ∈ xs, i64 n) ∧ xs.length ≤ maxLen) := ⟨fun h => by
 obtain ⟨xs, R, h1, h2, h3⟩ := (opT_slice Tryz.underlying37 (by simp) op3).op h
 refine ⟨xs, R, ?_, h2, h3⟩
 have e : ∀ l : List Int, (l.flatMap fun n => [T.v (.int .i64 n)]) = ints l := fun l => by
  unfold ints
  rw [List.flatMap_def, List.flatten_eq_flatMap, List.flatMap_map]
  simp [List.map_eq_flatMap]
 rw [← e]
 exact h1⟩
def insOk (x : Ins) : Prop := i64 x.op ∧ i64 x.r ∧ i64 x.a ∧ i64 x.b ∧ i64 x.n
theorem op207 : OpT Tryz.prog 207 tIns insOk := by
 refine opT_struct Tryz.underlying207 (sz := 1 + (1 + (1 + (1 + 1)))) (by kernel_rfl) (fun x : Int × Int × Int × Int × Int => (⟨x.1, x.2.1, x.2.2.1, x.2.2.2.1, x.2.2.2.2⟩ : Ins)) tIns insOk ?_ ?_
  (opT_cons rfl rfl (by kernel_rfl) op3 (opT_cons rfl rfl (by kernel_rfl) op3 (opT_cons rfl rfl (by kernel_rfl) op3 (opT_cons rfl rfl (by kernel_rfl) op3 (opT_last rfl rfl (by kernel_rfl) op3)))))
 ·exact fun _ => rfl
 ·exact fun _ h => h
theorem op174 : OpT Tryz.prog 174 (fun xs : List Ins => [.r 207 xs.length (insT xs)]) (fun xs => (∀ x ∈ xs, insOk x) ∧ xs.length ≤ maxLen) := opT_slice Tryz.underlying174 (by simp) op207
structure Sta where
 at_ : Int
 regs : List Int
 out : List Int
 code : Int
def tSta (s : Sta) : List T := stR s.at_ s.regs s.out s.code
def staOk (s : Sta) : Prop := i64 s.at_ ∧ ((∀ n ∈ s.regs, i64 n) ∧ s.regs.length ≤ maxLen) ∧ ((∀ n ∈ s.out, i64 n) ∧ s.out.length ≤ maxLen) ∧ i64 s.code
theorem op176 : OpT Tryz.prog 176 tSta staOk := by
 refine opT_struct Tryz.underlying176 (sz := 1 + (1 + (1 + 1))) (by kernel_rfl) (fun x : Int × List Int × List Int × Int => (⟨x.1, x.2.1, x.2.2.1, x.2.2.2⟩ : Sta)) tSta staOk ?_ ?_
  (opT_cons rfl rfl (by kernel_rfl) op3 (opT_cons rfl rfl (by kernel_rfl) op37 (opT_cons rfl rfl (by kernel_rfl) op37 (opT_last rfl rfl (by kernel_rfl) op3))))
 ·exact fun _ => rfl
 ·exact fun _ h => h
end Go.Proofs.YtkgkbkpgpbpjhaaGreat.VM

/- Rows of instructions, marked. -/
namespace Go.Proofs.YtkgkbkpgpbpjhaaGreat.VM
open Go Go.Proofs
set_option linter.unusedSimpArgs false
set_option linter.unusedVariables false
set_option maxRecDepth 100000
set_option maxHeartbeats 4000000
def insUp (k : Int) (n : Nat) : List Ins := (List.range n).map fun j : Nat => ⟨k + 5 * (j : Int), k + 5 * (j : Int) + 1, k + 5 * (j : Int) + 1 + 1, k + 5 * (j : Int) + 1 + 1 + 1, k + 5 * (j : Int) + 1 + 1 + 1 + 1⟩
@[simp] theorem insUp_len (k : Int) (n : Nat) : (insUp k n).length = n := by simp [insUp]
@[simp] theorem insUp_zero (k : Int) : insUp k 0 = [] := rfl
theorem insUp_succ (k : Int) (n : Nat) : insUp k (n + 1) = insUp k n ++ [⟨k + 5 * (n : Int), k + 5 * (n : Int) + 1, k + 5 * (n : Int) + 1 + 1, k + 5 * (n : Int) + 1 + 1 + 1, k + 5 * (n : Int) + 1 + 1 + 1 + 1⟩] := by simp [insUp, List.range_succ]
def H_markInsS (k : Int) (l : List Ins) (i : Nat) : St := ⟨[(0, .c (.sl 0 [] 0 l.length)), (1, .c (.v (.int .i64 (k + 5 * i)))), (5, .c (.v (.int .i64 i)))], [(0, ⟨.own, 116, insT (insUp k i ++ l.drop i)⟩)]⟩
theorem run_markInsS {j : Nat} (hj : big ≤ j) (l : List Ins) (k : Int) (hk : 0 ≤ k ∧ k + 5 * l.length ≤ 4611686018427387904) :
  M.run (j + 1) 214 [.c (.s 116 l.length (insT l)), .c (.v (.int .i64 k))] = some ([.c (.v (.int .i64 (k + 5 * l.length)))], [.c (.s 116 l.length (insT (insUp k l.length))), .c (.v (.int .i64 k))]) := by
 rw [m_run (fn := Tryz.f214) (i0 := 0) rfl Tryz.func214 rfl rfl (by simp)]
 simp -implicitDefEqProofs
 rw [loop_to (H_markInsS k l) l.length (by simp -implicitDefEqProofs [H_markInsS, hint1]) (by simp [big] at hj; omega) (fun i hi => by
  have e := insT_set (l := insUp k i ++ l.drop i) (i := i) (by simp; omega) ⟨k + 5 * (i : Int), k + 5 * (i : Int) + 1, k + 5 * (i : Int) + 1 + 1, k + 5 * (i : Int) + 1 + 1 + 1, k + 5 * (i : Int) + 1 + 1 + 1 + 1⟩
  rw [set_mid (l := insUp k i) (insUp_len k i) (r := l.drop i) (by simp; omega), ← insUp_succ] at e
  simp -implicitDefEqProofs at e
  simp -implicitDefEqProofs [H_markInsS, hint1, hi, w64 (x := (i : Int) + 1) (by omega), w64 (x := k + 5 * (i : Int) + 1) (by omega), w64 (x := k + 5 * (i : Int) + 1 + 1) (by omega), w64 (x := k + 5 * (i : Int) + 1 + 1 + 1) (by omega), w64 (x := k + 5 * (i : Int) + 1 + 1 + 1 + 1) (by omega), w64 (x := k + 5 * (i : Int) + 1 + 1 + 1 + 1 + 1) (by omega), show i + (l.length - i) = l.length by omega, show i * 5 + 1 ≤ l.length * 5 by omega, show i * 5 + 1 + 1 ≤ l.length * 5 by omega, show i * 5 + 2 + 1 ≤ l.length * 5 by omega, show i * 5 + 3 + 1 ≤ l.length * 5 by omega, show i * 5 + 4 + 1 ≤ l.length * 5 by omega, e]
  omega) (by simp -implicitDefEqProofs [H_markInsS, stops])]
 simp -implicitDefEqProofs [H_markInsS]
end Go.Proofs.YtkgkbkpgpbpjhaaGreat.VM

/- StateOk of the specification, and of the program. -/
namespace Go.Proofs.YtkgkbkpgpbpjhaaGreat.VM
open Go Go.Proofs
set_option linter.unusedSimpArgs false
set_option linter.unusedVariables false
set_option maxRecDepth 100000
def stOkB (n : Nat) (a : Int) (xs ys : List Int) (c : Int) : Bool := decide (xs.length = 4) && inB c 0 2 && inB a 0 ((n : Int) - 1) && decide (ys.length ≤ 60) && xs.all numB && ys.all numB
def H44 (l : List Ins) (a c : Int) (xs ys : List Int) (t i : Nat) : St := ⟨[(0, .c (.sl 0 [] 0 l.length)), (3, .ptr 256 [] 0), (t, .c (.v (.int .i64 i)))], [(0, ⟨.ro, 116, insT l⟩), (1, ⟨.ro, 3, ints xs⟩), (2, ⟨.ro, 3, ints ys⟩), (256, ⟨.box, 39, [.v (.int .i64 a), .l 1 [] 0 xs.length, .l 2 [] 0 ys.length, .v (.int .i64 c)]⟩)]⟩
end Go.Proofs.YtkgkbkpgpbpjhaaGreat.VM

/- StateOk: the program's, and the law. -/
namespace Go.Proofs.YtkgkbkpgpbpjhaaGreat.VM
open Go Go.Proofs
set_option linter.unusedSimpArgs false
set_option linter.unusedVariables false
set_option maxRecDepth 100000
end Go.Proofs.YtkgkbkpgpbpjhaaGreat.VM
