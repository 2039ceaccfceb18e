/- Draws of systems: reckoned. -/
import Derived.Test.YtninncdacekfgaaK21
import Derived.Test.YtninncdacekfgaaK16
import Derived.Test.YtninncdacekfgaaK18
import Derived.Test.YtninncdacekfgaaK19
import Derived.Test.YtninncdacekfgaaK24d
import Derived.Test.YtninncdacekfgaaK25d
import Derived.Test.YtninncdacekfgaaK26d
import Derived.Test.YtninncdacekfgaaK27d
set_option linter.unusedSimpArgs false
set_option linter.unusedVariables false
set_option maxRecDepth 100000
set_option maxHeartbeats 20000000
namespace Go.Proofs.Ytninncdacekfgaa.VM
open Go Go.Proofs
def Dsy (S : Sy) : Prop := sysB S = true ∨ S = zSy
theorem zSy_sm : Small zSy := by refine ⟨?_, ?_, ?_, ?_, ?_, ?_, ?_, ?_⟩ <;> simp [zSy, tot]
theorem Dsy.small {S : Sy} (h : Dsy S) : Small S := by
 rcases h with h | rfl
 ·exact Small.right h
 ·exact zSy_sm
end Go.Proofs.Ytninncdacekfgaa.VM
namespace Go.Proofs.Ytninncdacekfgaa.VM
open Go Go.Proofs
theorem Dsy.n4 {S : Sy} (h : Dsy S) : S.progs.length ≤ 4 := by
 rcases h with h | rfl
 ·exact (right_iff.1 h).n4
 ·simp [zSy]
end Go.Proofs.Ytninncdacekfgaa.VM
namespace Go.Proofs.Ytninncdacekfgaa.VM
open Go Go.Proofs
structure Rs where
 S : Sy
 m : Nat
 Y : Sy
 L : List Pk
 i : Nat
 h : Int
structure RsOk (bs : List Int) (S0 : Sy) (k : Nat) (r : Rs) : Prop where
 cu : CuOk ⟨bs, r.i, r.h⟩
 dsy : Dsy r.S
 len : r.L.length = k
 m : (r.m = 0 ∧ r.S = S0) ∨ (r.m = 1 ∧ r.S = S0) ∨ (r.m = 2 ∧ r.Y = r.S)
end Go.Proofs.Ytninncdacekfgaa.VM
