/- Draws of systems: sizes; reckoned. -/
import Derived.Test.YtninncdacekfgaaGreatV3d
import Derived.Test.YtninncdacekfgaaGreatFxd
import Derived.Test.YtninncdacekfgaaGreatMkd
import Derived.Test.YtninncdacekfgaaGreatTabd
import Derived.Test.YtninncdacekfgaaGreatK0d
import Derived.Test.YtninncdacekfgaaGreatK2d
import Derived.Test.YtninncdacekfgaaGreatK4d
import Derived.Test.YtninncdacekfgaaGreatK5d
import Derived.Test.YtninncdacekfgaaGreatK6d
import Derived.Test.YtninncdacekfgaaGreatK7d
import Derived.Test.YtninncdacekfgaaGreatK13d
import Derived.Test.YtninncdacekfgaaGreatK16d
import Derived.Test.YtninncdacekfgaaGreatK17d
import Derived.Test.YtninncdacekfgaaGreatK18d
import Derived.Test.YtninncdacekfgaaGreatK19d
import Derived.Test.YtninncdacekfgaaGreatK20d
import Derived.Test.YtninncdacekfgaaGreatK21d
import Derived.Test.YtninncdacekfgaaGreatK23d
import Derived.Test.YtninncdacekfgaaGreatK24d
import Derived.Test.YtninncdacekfgaaGreatK25d
import Derived.Test.YtninncdacekfgaaGreatK29d
import Derived.Test.YtninncdacekfgaaGreatK32d
import Derived.Test.YtninncdacekfgaaGreatK33d
set_option linter.unusedSimpArgs false
set_option linter.unusedVariables false
set_option maxRecDepth 100000
set_option maxHeartbeats 40000000
namespace Go.Proofs.YtninncdacekfgaaGreat.VM
open Go Go.Proofs
structure Tiny (s : Sy) : Prop where
 n4 : s.progs.length ≤ 4
 st : s.states.length ≤ 4
 wa : s.ways.length ≤ 16
 hi : s.hist.length ≤ 4
 pr : ∀ x ∈ s.progs, x.length ≤ 100
 ss : ∀ x ∈ s.states, (nums x).length ≤ 64
 wy : ∀ x ∈ s.ways, x.length ≤ 13
 ev : ∀ x ∈ s.hist, x.length ≤ 201
theorem Tiny.small {s : Sy} (h : Tiny s) : Small s := by
 have p1 := tot_bound h.pr
 have p2 : tot (s.states.map nums) ≤ 64 * (s.states.map nums).length := tot_bound fun x hx => by
  obtain ⟨y, hy, rfl⟩ := List.mem_map.1 hx
  exact h.ss y hy
 have p3 := tot_bound h.wy
 have p4 := tot_bound h.ev
 have n4 := h.n4
 have st := h.st
 have wa := h.wa
 have hi := h.hi
 rw [List.length_map] at p2
 exact ⟨by omega, by omega, by omega, by omega, by omega, by omega, by omega, by omega⟩
end Go.Proofs.YtninncdacekfgaaGreat.VM
namespace Go.Proofs.YtninncdacekfgaaGreat.VM
open Go Go.Proofs
end Go.Proofs.YtninncdacekfgaaGreat.VM
