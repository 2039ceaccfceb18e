/- Numbers, instructions, states: reckoned. -/
import Derived.Test.YtninncdacekfgaaGreatK0s
set_option linter.unusedSimpArgs false
set_option linter.unusedVariables false
set_option maxRecDepth 100000
set_option maxHeartbeats 4000000
namespace Go.Proofs.YtninncdacekfgaaGreat.VM
open Go Go.Proofs
def insT (l : List Ins) : List T := l.flatMap tIns
theorem tIns_len (x : Ins) : (tIns x).length = 5 := rfl
@[simp] theorem insT_len (l : List Ins) : (insT l).length = l.length * 5 := fm_len tIns_len l
@[simp] theorem insT_take (l : List Ins) (n : Nat) : (insT l).take (n * 5) = insT (l.take n) := fm_take tIns_len l n
@[simp] theorem insT_drop (l : List Ins) (n : Nat) : (insT l).drop (n * 5) = insT (l.drop n) := fm_drop tIns_len l n
@[simp] theorem insT_at {l : List Ins} {i : Nat} (hi : i < l.length) : (insT (l.drop i)).take 5 = tIns l[i] := by rw [← insT_drop]; exact fm_at tIns_len hi
@[simp] theorem insT_v (l : List Ins) : allV (insT l) = true := fm_v (fun _ => rfl) l
@[simp] theorem insT_ros (l : List Ins) : ros (insT l) = insT l := fm_ros (fun _ => rfl) l
theorem insT_set {l : List Ins} {i : Nat} (hi : i < l.length) (x : Ins) : (((((insT l).set (i * 5) (.v (.int .i64 x.op))).set (i * 5 + 1) (.v (.int .i64 x.r))).set (i * 5 + 1 + 1) (.v (.int .i64 x.a))).set (i * 5 + 1 + 1 + 1) (.v (.int .i64 x.b))).set (i * 5 + 1 + 1 + 1 + 1) (.v (.int .i64 x.n)) = insT (l.set i x) := fm_set tIns_len hi x
end Go.Proofs.YtninncdacekfgaaGreat.VM
namespace Go.Proofs.YtninncdacekfgaaGreat.VM
open Go Go.Proofs
def i64 (n : Int) : Prop := -9223372036854775808 ≤ n ∧ n ≤ 9223372036854775807
structure Sta where
 at_ : Int
 regs : List Int
 out : List Int
 code : Int
def tSta (s : Sta) : List T := stR s.at_ s.regs s.out s.code
end Go.Proofs.YtninncdacekfgaaGreat.VM
namespace Go.Proofs.YtninncdacekfgaaGreat.VM
open Go Go.Proofs
def insUp (k : Int) (n : Nat) : List Ins := (List.range n).map fun j : Nat => ⟨k + 5 * (j : Int), k + 5 * (j : Int) + 1, k + 5 * (j : Int) + 1 + 1, k + 5 * (j : Int) + 1 + 1 + 1, k + 5 * (j : Int) + 1 + 1 + 1 + 1⟩
@[simp] theorem insUp_len (k : Int) (n : Nat) : (insUp k n).length = n := by simp [insUp]
@[simp] theorem insUp_zero (k : Int) : insUp k 0 = [] := rfl
end Go.Proofs.YtninncdacekfgaaGreat.VM
namespace Go.Proofs.YtninncdacekfgaaGreat.VM
open Go Go.Proofs
end Go.Proofs.YtninncdacekfgaaGreat.VM
namespace Go.Proofs.YtninncdacekfgaaGreat.VM
open Go Go.Proofs
end Go.Proofs.YtninncdacekfgaaGreat.VM
