/- Draws of systems: sizes; reckoned. -/
import Derived.Test.YtninncdacekfgaaK24d
import Derived.Test.YtninncdacekfgaaK25d
import Derived.Test.YtninncdacekfgaaK26d
import Derived.Test.YtninncdacekfgaaK27d
import Derived.Test.YtninncdacekfgaaK33d
set_option linter.unusedSimpArgs false
set_option linter.unusedVariables false
set_option maxRecDepth 100000
set_option maxHeartbeats 40000000
namespace Go.Proofs.Ytninncdacekfgaa.VM
open Go Go.Proofs
structure Tiny (s : Sy) : Prop where
 n4 : s.progs.length ≤ 4
 st : s.states.length ≤ 4
 wa : s.ways.length ≤ 16
 hi : s.hist.length ≤ 4
 pr : ∀ x ∈ s.progs, x.length ≤ 100
 ss : ∀ x ∈ s.states, (nums x).length ≤ 64
 wy : ∀ x ∈ s.ways, x.length ≤ 13
 ev : ∀ x ∈ s.hist, x.length ≤ 201
theorem Tiny.small {s : Sy} (h : Tiny s) : Small s := by
 have p1 := tot_bound h.pr
 have p2 : tot (s.states.map nums) ≤ 64 * (s.states.map nums).length := tot_bound fun x hx => by
  obtain ⟨y, hy, rfl⟩ := List.mem_map.1 hx
  exact h.ss y hy
 have p3 := tot_bound h.wy
 have p4 := tot_bound h.ev
 have n4 := h.n4
 have st := h.st
 have wa := h.wa
 have hi := h.hi
 rw [List.length_map] at p2
 exact ⟨by omega, by omega, by omega, by omega, by omega, by omega, by omega, by omega⟩
end Go.Proofs.Ytninncdacekfgaa.VM
namespace Go.Proofs.Ytninncdacekfgaa.VM
open Go Go.Proofs
end Go.Proofs.Ytninncdacekfgaa.VM
