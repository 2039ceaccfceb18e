/- Numbers, instructions, states: reckoned. -/
import Derived.Test.YtninncdacekfgaaGreatK0s
import Derived.Test.YtninncdacekfgaaGreatK2s
import Derived.Test.YtninncdacekfgaaGreatV3d
import Derived.Test.YtninncdacekfgaaGreatFxd
import Derived.Test.YtninncdacekfgaaGreatMkd
import Derived.Test.YtninncdacekfgaaGreatTabd
import Derived.Test.YtninncdacekfgaaGreatK0d
set_option linter.unusedSimpArgs false
set_option linter.unusedVariables false
set_option maxRecDepth 100000
set_option maxHeartbeats 4000000
namespace Go.Proofs.YtninncdacekfgaaGreat.VM
open Go Go.Proofs
def H71 (xs : List Int) (i : Nat) : St := ⟨[(0, .c (.sl 0 [] 0 xs.length)), (3, .c (.sl 512 [] 0 xs.length)), (4, .c (.v (.int .i64 i)))], [(0, ⟨.ro, 3, ints xs⟩), (512, ⟨.own, 3, ints (tp xs 0 i)⟩)]⟩
theorem run71 {j : Nat} (hj : big ≤ j) (xs : List Int) (hl : xs.length ≤ 1048576) :
  M.run (j + 1) 16 [.c (.r 3 xs.length (ints xs))] = some ([.c (.s 3 xs.length (ints xs))], [.c (.r 3 xs.length (ints xs))]) := by
 rw [m_run (fn := Tryz.f16) (i0 := 0) rfl Tryz.func16 rfl rfl (by simp)]
 simp -implicitDefEqProofs [le_most hl, ints_rep]
 rw [loop_up (H71 xs) xs.length (.exit 0) ⟨ins (ins (ins (ins (H71 xs xs.length).t 8 (.c (.v (.int .i64 xs.length)))) 9 (.c (.sl 0 [] 0 xs.length))) 10 (.c (.v (.int .i64 xs.length)))) 11 (.c (.v (.bool false))), (H71 xs xs.length).o⟩ (by simp) (by simp -implicitDefEqProofs [H71, hint1]) (by simp -implicitDefEqProofs [big] at hj; omega)]
 ·simp -implicitDefEqProofs [H71]
 ·intro i hi
  simp -implicitDefEqProofs [H71, hint1, hi, w64 (x := (i : Int) + 1) (by omega), show i + 1 ≤ xs.length by omega]
 ·simp -implicitDefEqProofs [H71]
theorem insT_rep (n : Nat) : (List.replicate n [T.v (Value.int IntKind.i64 0), T.v (Value.int IntKind.i64 0), T.v (Value.int IntKind.i64 0), T.v (Value.int IntKind.i64 0), T.v (Value.int IntKind.i64 0)]).flatten = insT (List.replicate n ⟨0, 0, 0, 0, 0⟩) := fm_rep (tr := tIns) n ⟨0, 0, 0, 0, 0⟩
theorem run28x {j : Nat} (o r a b n : Int) : M.run (j + 1) 149 [.agg [.v (.int .i64 o), .v (.int .i64 r), .v (.int .i64 a), .v (.int .i64 b), .v (.int .i64 n)]] = some ([.agg [.v (.int .i64 o), .v (.int .i64 r), .v (.int .i64 a), .v (.int .i64 b), .v (.int .i64 n)]], [.agg [.v (.int .i64 o), .v (.int .i64 r), .v (.int .i64 a), .v (.int .i64 b), .v (.int .i64 n)]]) := run28 ⟨o, r, a, b, n⟩
def H45 (xs : List Ins) (i : Nat) : St := ⟨[(0, .c (.sl 0 [] 0 xs.length)), (3, .c (.sl 512 [] 0 xs.length)), (4, .c (.v (.int .i64 i)))], [(0, ⟨.ro, 169, insT xs⟩), (512, ⟨.own, 105, insT (tp xs ⟨0,0,0,0,0⟩ i)⟩)]⟩
theorem run45 {j : Nat} (hj : big ≤ j) (xs : List Ins) (hl : xs.length ≤ 1048576) :
  M.run (j + 2) 100 [.c (.r 169 xs.length (insT xs))] = some ([.c (.s 105 xs.length (insT xs))], [.c (.r 169 xs.length (insT xs))]) := by
 rw [m_run (fn := Tryz.f100) (i0 := 0) rfl Tryz.func100 rfl rfl (by simp)]
 simp -implicitDefEqProofs [le_most hl, insT_rep]
 rw [loop_up (H45 xs) xs.length (.exit 0) ⟨ins (ins (ins (ins (H45 xs xs.length).t 8 (.c (.v (.int .i64 xs.length)))) 9 (.c (.sl 0 [] 0 xs.length))) 10 (.c (.v (.int .i64 xs.length)))) 11 (.c (.v (.bool false))), (H45 xs xs.length).o⟩ (by simp) (by simp -implicitDefEqProofs [H45, hint1]) (by simp -implicitDefEqProofs [big] at hj; omega)]
 ·simp -implicitDefEqProofs [H45]
 ·intro i hi
  simp -implicitDefEqProofs [H45, hint1, hi, w64 (x := (i : Int) + 1) (by omega), show i * 5 + 1 ≤ xs.length * 5 by omega, show i * 5 + 5 ≤ xs.length * 5 by omega, hi, tIns, run28x, insT_set (l := tp xs ⟨0,0,0,0,0⟩ i) (by simpa using hi)]
  done
 ·simp -implicitDefEqProofs [H45]
theorem run70 {j : Nat} (n : Nat) (l : List T) (k : Int) (hn : n ≤ 9223372036854775807) (hk : 0 ≤ k ∧ k ≤ 1048576) :
  M.run (j + 1) 146 [.c (.r 3 n l), .c (.v (.int .i64 k))] = some ([.c (.v (.int .i64 (if k - n < 0 then -1 else k - n)))], [.c (.r 3 n l), .c (.v (.int .i64 k))]) := by
 rw [m_run (fn := Tryz.f146) (i0 := 0) rfl Tryz.func146 rfl rfl (by simp)]
 by_cases h : k - n < 0 <;> simp -implicitDefEqProofs [h, w64 (x := k - n) (by omega)]
theorem run42 {j : Nat} (n : Nat) (l : List T) (k : Int) (hn : n ≤ 9223372036854775807) (hk : 0 ≤ k ∧ k ≤ 1048576) :
  M.run (j + 1) 93 [.c (.r 169 n l), .c (.v (.int .i64 k))] = some ([.c (.v (.int .i64 (if k - n < 0 then -1 else k - n)))], [.c (.r 169 n l), .c (.v (.int .i64 k))]) := by
 rw [m_run (fn := Tryz.f93) (i0 := 0) rfl Tryz.func93 rfl rfl (by simp)]
 by_cases h : k - n < 0 <;> simp -implicitDefEqProofs [h, w64 (x := k - n) (by omega)]
theorem run43 {j : Nat} (a c : Int) (xs ys : List Int) (k : Int) (hx : xs.length ≤ 9223372036854775807) (hy : ys.length ≤ 9223372036854775807) (hk : 0 ≤ k ∧ k ≤ 1048576) :
  M.run (j + 2) 94 [.agg (stR a xs ys c), .c (.v (.int .i64 k))] = some ([.c (.v (.int .i64 (if k - xs.length < 0 then -1 else if k - xs.length - ys.length < 0 then -1 else k - xs.length - ys.length)))], [.agg (stR a xs ys c), .c (.v (.int .i64 k))]) := by
 rw [m_run (fn := Tryz.f94) (i0 := 0) rfl Tryz.func94 rfl rfl (by simp -implicitDefEqProofs [stR])]
 by_cases h : k - xs.length < 0
 ·simp -implicitDefEqProofs [h, stR, own1, run70 xs.length _ k hx hk]
 ·by_cases h2 : k - xs.length - ys.length < 0
  ·simp -implicitDefEqProofs [h, h2, stR, own1, run70 xs.length _ k hx hk, run70 ys.length _ (k - xs.length) hy (by omega)]
  ·simp -implicitDefEqProofs [h, h2, stR, own1, run70 xs.length _ k hx hk, run70 ys.length _ (k - xs.length) hy (by omega)]
theorem run46 {j : Nat} (hj : big ≤ j) (a c : Int) (xs ys : List Int) (hx : xs.length ≤ 1048576) (hy : ys.length ≤ 1048576) :
  M.run (j + 2) 101 [.agg (stR a xs ys c)] = some ([.agg (stS a xs ys c)], [.agg (stR a xs ys c)]) := by
 rw [m_run (fn := Tryz.f101) (i0 := 0) rfl Tryz.func101 rfl rfl (by simp -implicitDefEqProofs [stR])]
 simp -implicitDefEqProofs [stR, stS, own1, run71 hj xs hx, run71 hj ys hy]
theorem run73 {j : Nat} (o r a b n : Int) : M.run (j + 1) 159 [.agg [.v (.int .i64 o), .v (.int .i64 r), .v (.int .i64 a), .v (.int .i64 b), .v (.int .i64 n)], .agg [.v (.int .i64 o), .v (.int .i64 r), .v (.int .i64 a), .v (.int .i64 b), .v (.int .i64 n)]] = some ([.c (.v (.bool true))], [.agg [.v (.int .i64 o), .v (.int .i64 r), .v (.int .i64 a), .v (.int .i64 b), .v (.int .i64 n)], .agg [.v (.int .i64 o), .v (.int .i64 r), .v (.int .i64 a), .v (.int .i64 b), .v (.int .i64 n)]]) := by
 rw [m_run (fn := Tryz.f159) (i0 := 0) rfl Tryz.func159 rfl rfl (by simp)]
 simp -implicitDefEqProofs
def H48 (xs : List Ins) (i : Nat) : St := ⟨[(0, .c (.sl 0 [] 0 xs.length)), (1, .c (.sl 1 [] 0 xs.length)), (5, .c (.v (.int .i64 i)))], [(0, ⟨.ro, 105, insT xs⟩), (1, ⟨.ro, 105, insT xs⟩)]⟩
theorem run48 {j : Nat} (hj : big ≤ j) (xs : List Ins) (hl : xs.length ≤ 4611686018427387904) :
  M.run (j + 2) 110 [.c (.r 105 xs.length (insT xs)), .c (.r 105 xs.length (insT xs))] = some ([.c (.v (.bool true))], [.c (.r 105 xs.length (insT xs)), .c (.r 105 xs.length (insT xs))]) := by
 rw [m_run (fn := Tryz.f110) (i0 := 0) rfl Tryz.func110 rfl rfl (by simp)]
 simp -implicitDefEqProofs
 rw [loop_up (H48 xs) xs.length (.exit 0) ⟨ins (ins (ins (ins (H48 xs xs.length).t 11 (.c (.v (.int .i64 xs.length)))) 12 (.c (.sl 0 [] 0 xs.length))) 13 (.c (.v (.int .i64 xs.length)))) 14 (.c (.v (.bool false))), (H48 xs xs.length).o⟩ (by simp) (by simp -implicitDefEqProofs [H48, hint1]) (by simp -implicitDefEqProofs [big] at hj; omega)]
 ·simp -implicitDefEqProofs [H48]
 ·intro i hi
  simp -implicitDefEqProofs [H48, hint1, hi, w64 (x := (i : Int) + 1) (by omega), tIns, run73, own1]
 ·simp -implicitDefEqProofs [H48]
end Go.Proofs.YtninncdacekfgaaGreat.VM
namespace Go.Proofs.YtninncdacekfgaaGreat.VM
open Go Go.Proofs
theorem op3 : OpT Tryz.prog 3 (fun n : Int => [.v (.int .i64 n)]) i64 := opT_int Tryz.underlying3
theorem op33 : OpT Tryz.prog 33 (fun xs : List Int => [.r 3 xs.length (ints xs)]) (fun xs => (∀ n ∈ xs, i64 n) ∧ xs.length ≤ maxLen) := ⟨fun h => by
 obtain ⟨xs, R, h1, h2, h3⟩ := (opT_slice Tryz.underlying33 (by simp) op3).op h
 refine ⟨xs, R, ?_, h2, h3⟩
 have e : ∀ l : List Int, (l.flatMap fun n => [T.v (.int .i64 n)]) = ints l := fun l => by
  unfold ints
  rw [List.flatMap_def, List.flatten_eq_flatMap, List.flatMap_map]
  simp [List.map_eq_flatMap]
 rw [← e]
 exact h1⟩
def insOk (x : Ins) : Prop := i64 x.op ∧ i64 x.r ∧ i64 x.a ∧ i64 x.b ∧ i64 x.n
theorem op169 : OpT Tryz.prog 169 tIns insOk := by
 refine opT_struct Tryz.underlying169 (sz := 1 + (1 + (1 + (1 + 1)))) (by kernel_rfl) (fun x : Int × Int × Int × Int × Int => (⟨x.1, x.2.1, x.2.2.1, x.2.2.2.1, x.2.2.2.2⟩ : Ins)) tIns insOk ?_ ?_
  (opT_cons rfl rfl (by kernel_rfl) op3 (opT_cons rfl rfl (by kernel_rfl) op3 (opT_cons rfl rfl (by kernel_rfl) op3 (opT_cons rfl rfl (by kernel_rfl) op3 (opT_last rfl rfl (by kernel_rfl) op3)))))
 ·exact fun _ => rfl
 ·exact fun _ h => h
theorem op129 : OpT Tryz.prog 129 (fun xs : List Ins => [.r 169 xs.length (insT xs)]) (fun xs => (∀ x ∈ xs, insOk x) ∧ xs.length ≤ maxLen) := opT_slice Tryz.underlying129 (by simp) op169
def staOk (s : Sta) : Prop := i64 s.at_ ∧ ((∀ n ∈ s.regs, i64 n) ∧ s.regs.length ≤ maxLen) ∧ ((∀ n ∈ s.out, i64 n) ∧ s.out.length ≤ maxLen) ∧ i64 s.code
theorem op131 : OpT Tryz.prog 131 tSta staOk := by
 refine opT_struct Tryz.underlying131 (sz := 1 + (1 + (1 + 1))) (by kernel_rfl) (fun x : Int × List Int × List Int × Int => (⟨x.1, x.2.1, x.2.2.1, x.2.2.2⟩ : Sta)) tSta staOk ?_ ?_
  (opT_cons rfl rfl (by kernel_rfl) op3 (opT_cons rfl rfl (by kernel_rfl) op33 (opT_cons rfl rfl (by kernel_rfl) op33 (opT_last rfl rfl (by kernel_rfl) op3))))
 ·exact fun _ => rfl
 ·exact fun _ h => h
end Go.Proofs.YtninncdacekfgaaGreat.VM
namespace Go.Proofs.YtninncdacekfgaaGreat.VM
open Go Go.Proofs
theorem insUp_succ (k : Int) (n : Nat) : insUp k (n + 1) = insUp k n ++ [⟨k + 5 * (n : Int), k + 5 * (n : Int) + 1, k + 5 * (n : Int) + 1 + 1, k + 5 * (n : Int) + 1 + 1 + 1, k + 5 * (n : Int) + 1 + 1 + 1 + 1⟩] := by simp [insUp, List.range_succ]
def H_markInsS (k : Int) (l : List Ins) (i : Nat) : St := ⟨[(0, .c (.sl 0 [] 0 l.length)), (1, .c (.v (.int .i64 (k + 5 * i)))), (5, .c (.v (.int .i64 i)))], [(0, ⟨.own, 105, insT (insUp k i ++ l.drop i)⟩)]⟩
theorem run_markInsS {j : Nat} (hj : big ≤ j) (l : List Ins) (k : Int) (hk : 0 ≤ k ∧ k + 5 * l.length ≤ 4611686018427387904) :
  M.run (j + 1) 114 [.c (.s 105 l.length (insT l)), .c (.v (.int .i64 k))] = some ([.c (.v (.int .i64 (k + 5 * l.length)))], [.c (.s 105 l.length (insT (insUp k l.length))), .c (.v (.int .i64 k))]) := by
 rw [m_run (fn := Tryz.f114) (i0 := 0) rfl Tryz.func114 rfl rfl (by simp)]
 simp -implicitDefEqProofs
 rw [loop_to (H_markInsS k l) l.length (by simp -implicitDefEqProofs [H_markInsS, hint1]) (by simp [big] at hj; omega) (fun i hi => by
  have e := insT_set (l := insUp k i ++ l.drop i) (i := i) (by simp; omega) ⟨k + 5 * (i : Int), k + 5 * (i : Int) + 1, k + 5 * (i : Int) + 1 + 1, k + 5 * (i : Int) + 1 + 1 + 1, k + 5 * (i : Int) + 1 + 1 + 1 + 1⟩
  rw [set_mid (l := insUp k i) (insUp_len k i) (r := l.drop i) (by simp; omega), ← insUp_succ] at e
  simp -implicitDefEqProofs at e
  simp -implicitDefEqProofs [H_markInsS, hint1, hi, w64 (x := (i : Int) + 1) (by omega), w64 (x := k + 5 * (i : Int) + 1) (by omega), w64 (x := k + 5 * (i : Int) + 1 + 1) (by omega), w64 (x := k + 5 * (i : Int) + 1 + 1 + 1) (by omega), w64 (x := k + 5 * (i : Int) + 1 + 1 + 1 + 1) (by omega), w64 (x := k + 5 * (i : Int) + 1 + 1 + 1 + 1 + 1) (by omega), show i + (l.length - i) = l.length by omega, show i * 5 + 1 ≤ l.length * 5 by omega, show i * 5 + 1 + 1 ≤ l.length * 5 by omega, show i * 5 + 2 + 1 ≤ l.length * 5 by omega, show i * 5 + 3 + 1 ≤ l.length * 5 by omega, show i * 5 + 4 + 1 ≤ l.length * 5 by omega, e]
  omega) (by simp -implicitDefEqProofs [H_markInsS, stops])]
 simp -implicitDefEqProofs [H_markInsS]
end Go.Proofs.YtninncdacekfgaaGreat.VM
namespace Go.Proofs.YtninncdacekfgaaGreat.VM
open Go Go.Proofs
end Go.Proofs.YtninncdacekfgaaGreat.VM
namespace Go.Proofs.YtninncdacekfgaaGreat.VM
open Go Go.Proofs
end Go.Proofs.YtninncdacekfgaaGreat.VM
