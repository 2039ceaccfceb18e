/- The law FnReplay. -/
import Derived.Test.YtninncdacekfgaaK8
import Derived.Test.YtninncdacekfgaaK17
import Derived.Test.YtninncdacekfgaaK24d
import Derived.Test.YtninncdacekfgaaK25d
import Derived.Test.YtninncdacekfgaaK26d
import Derived.Test.YtninncdacekfgaaK27d
import Derived.Test.YtninncdacekfgaaK33d
import Derived.Test.YtninncdacekfgaaK34d
set_option linter.unusedSimpArgs false
set_option linter.unusedVariables false
set_option maxRecDepth 100000
set_option maxHeartbeats 40000000
namespace Go.Proofs.Ytninncdacekfgaa.VM
open Go Go.Proofs
theorem run_at1 {j : Nat} (bs : List Int) (hb : bs.length ≤ 1048576) (hB : ∀ n ∈ bs, 0 ≤ n ∧ n ≤ 255) (i : Nat) (hi : i ≤ 2) : ∃ v : Int, (0 ≤ v ∧ v ≤ 255) ∧ M.run (j + 1) 14 [.c (.r 5 bs.length (octT bs)), .c (.v (.int .i64 i))] = some ([.c (.v (.int .i64 v))], [.c (.r 5 bs.length (octT bs)), .c (.v (.int .i64 i))]) := by
 by_cases h : i < bs.length
 ·have hv := hB _ (List.getElem_mem h)
  refine ⟨bs[i], hv, ?_⟩
  have o1 := oct_at h
  rw [m_run (fn := Try.f14) (i0 := 0) rfl Try.func14 rfl rfl (by simp)]
  simp -implicitDefEqProofs [own1, h, o1, gq o1, w64 (x := bs[i]) (by omega)]
 ·have hm : 0 ≤ Int.tmod ((i : Int) * 7 + bs.length) 256 ∧ Int.tmod ((i : Int) * 7 + bs.length) 256 ≤ 255 := by
   rw [Int.tmod_eq_emod_of_nonneg (by omega)]
   omega
  refine ⟨Int.tmod ((i : Int) * 7 + bs.length) 256, hm, ?_⟩
  rw [m_run (fn := Try.f14) (i0 := 0) rfl Try.func14 rfl rfl (by simp)]
  simp -implicitDefEqProofs [own1, h, w64 (x := (i : Int) * 7) (by omega), w64 (x := (i : Int) * 7 + bs.length) (by omega)]
end Go.Proofs.Ytninncdacekfgaa.VM
