/- Picks; runs: reckoned; the law FnExactRun. -/
import Derived.Test.YtninncdacekfgaaK16
import Derived.Test.YtninncdacekfgaaK22
import Derived.Test.YtninncdacekfgaaK18
import Derived.Test.YtninncdacekfgaaK19
set_option linter.unusedSimpArgs false
set_option linter.unusedVariables false
set_option maxRecDepth 100000
set_option maxHeartbeats 40000000
namespace Go.Proofs.Ytninncdacekfgaa.VM
open Go Go.Proofs
structure Pk where
 p : Int
 peer : Int
def tPk (x : Pk) : List T := [.v (.int .i64 x.p), .v (.int .i64 x.peer)]
def pkT (l : List Pk) : List T := l.flatMap tPk
theorem tPk_len (x : Pk) : (tPk x).length = 2 := rfl
@[simp] theorem pkT_len (l : List Pk) : (pkT l).length = l.length * 2 := fm_len tPk_len l
@[simp] theorem pkT_take (l : List Pk) (n : Nat) : (pkT l).take (n * 2) = pkT (l.take n) := fm_take tPk_len l n
@[simp] theorem pkT_drop (l : List Pk) (n : Nat) : (pkT l).drop (n * 2) = pkT (l.drop n) := fm_drop tPk_len l n
@[simp] theorem pkT_at {l : List Pk} {i : Nat} (hi : i < l.length) : (pkT (l.drop i)).take 2 = tPk l[i] := by rw [← pkT_drop]; exact fm_at tPk_len hi
@[simp] theorem pkT_v (l : List Pk) : allV (pkT l) = true := fm_v (fun _ => rfl) l
@[simp] theorem pkT_ros (l : List Pk) : ros (pkT l) = pkT l := fm_ros (fun _ => rfl) l
def pkUp (k : Int) (n : Nat) : List Pk := (List.range n).map fun j : Nat => ⟨k + 2 * (j : Int), k + 2 * (j : Int) + 1⟩
@[simp] theorem pkUp_len (k : Int) (n : Nat) : (pkUp k n).length = n := by simp [pkUp]
@[simp] theorem pkUp_zero (k : Int) : pkUp k 0 = [] := rfl
end Go.Proofs.Ytninncdacekfgaa.VM
namespace Go.Proofs.Ytninncdacekfgaa.VM
open Go Go.Proofs
end Go.Proofs.Ytninncdacekfgaa.VM
namespace Go.Proofs.Ytninncdacekfgaa.VM
open Go Go.Proofs
end Go.Proofs.Ytninncdacekfgaa.VM
