/- Draws: numbers, instructions, programs: reckoned. -/
import Derived.Test.YtninncdacekfgaaK0
import Derived.Test.YtninncdacekfgaaK2
import Derived.Test.YtninncdacekfgaaK8
import Derived.Test.YtninncdacekfgaaK24d
set_option linter.unusedSimpArgs false
set_option linter.unusedVariables false
set_option maxRecDepth 100000
set_option maxHeartbeats 8000000
namespace Go.Proofs.Ytninncdacekfgaa.VM
open Go Go.Proofs
attribute [simp] cLink
structure Cu where
 bs : List Int
 i : Nat
 h : Int
structure CuOk (c : Cu) : Prop where
 le : c.i ≤ c.bs.length
 small : c.bs.length ≤ 1048576
def hN (h : Int) : Int := IntKind.i64.wrap (IntKind.i64.wrap (h * 6364136223846793005) + 1442695040888963407)
def Cu.next (c : Cu) : Cu := ⟨c.bs, if c.i < c.bs.length then c.i + 1 else c.i, hN c.h⟩
theorem CuOk.next {c : Cu} (h : CuOk c) : CuOk c.next := by
 refine ⟨?_, h.small⟩
 show (if c.i < c.bs.length then c.i + 1 else c.i) ≤ c.bs.length
 have := h.le
 split <;> omega
@[simp] theorem octT_len (bs : List Int) : (octT bs).length = bs.length := by simp [octT]
@[simp] theorem octT_take (bs : List Int) : (octT bs).take bs.length = octT bs := List.take_of_length_le (by simp)
@[simp] theorem octT_ros : ∀ bs : List Int, ros (octT bs) = octT bs
 | [] => rfl
 | b :: bs => by
  have := octT_ros bs
  unfold octT at this ⊢
  rw [List.map_cons, ros, this]
  rfl
@[simp] theorem octT_v : ∀ bs : List Int, allV (octT bs) = true
 | [] => rfl
 | b :: bs => octT_v bs
theorem oct_at {bs : List Int} {i : Nat} (h : i < bs.length) : (octT bs)[i]? = some (.v (.int .u8 bs[i])) := by
 unfold octT
 rw [List.getElem?_map, List.getElem?_eq_getElem h]
 rfl
end Go.Proofs.Ytninncdacekfgaa.VM
namespace Go.Proofs.Ytninncdacekfgaa.VM
open Go Go.Proofs
end Go.Proofs.Ytninncdacekfgaa.VM
namespace Go.Proofs.Ytninncdacekfgaa.VM
open Go Go.Proofs
end Go.Proofs.Ytninncdacekfgaa.VM
namespace Go.Proofs.Ytninncdacekfgaa.VM
open Go Go.Proofs
def endI : Ins := ⟨11, 0, 0, 0, 0⟩
def lK (l : List Ins) (k : Nat) : List Ins := l ++ List.replicate k endI
@[simp] theorem lK_len (l : List Ins) (k : Nat) : (lK l k).length = l.length + k := by simp [lK]
end Go.Proofs.Ytninncdacekfgaa.VM
