/- What laws compare. -/
import Derived.Test.YtninncdacekfgaaK15
import Derived.Test.YtninncdacekfgaaK24d
import Derived.Test.YtninncdacekfgaaK25d
import Derived.Test.YtninncdacekfgaaK26d
import Derived.Test.YtninncdacekfgaaK27d
import Derived.Test.YtninncdacekfgaaK33d
import Derived.Test.YtninncdacekfgaaK34d
import Derived.Test.YtninncdacekfgaaK36d
set_option linter.unusedSimpArgs false
set_option linter.unusedVariables false
set_option maxRecDepth 100000
set_option maxHeartbeats 40000000
namespace Go.Proofs.Ytninncdacekfgaa.VM
open Go Go.Proofs
def H_smE (es : List Ev) (i : Nat) : St := ⟨[(0, .c (.sl 0 [] 0 es.length)), (1, .c (.sl 1 [] 0 es.length)), (5, .c (.v (.int .i64 i)))], [(0, ⟨.ro, 29, evT es⟩), (1, ⟨.ro, 29, evT es⟩)]⟩
theorem run_sameEvents {j : Nat} (hj : big ≤ j) (es : List Ev) (hl : es.length ≤ 1048576) : M.run (j + 1) 50 [.c (.r 29 es.length (evT es)), .c (.r 29 es.length (evT es))] = some ([.c (.v (.bool true))], [.c (.r 29 es.length (evT es)), .c (.r 29 es.length (evT es))]) := by
 rw [m_run (fn := Try.f50) (i0 := 0) rfl Try.func50 rfl rfl (by simp)]
 simp -implicitDefEqProofs
 rw [loop_then (H_smE es) es.length (by simp -implicitDefEqProofs [H_smE, hint1]) (by simp [big] at hj; omega) (fun i hi => by
  have g : evB es[i].kind es[i].peer es[i].v es[i].kind es[i].peer es[i].v = true := evE_iff.2 rfl
  simp -implicitDefEqProofs [H_smE, hint1, hi, tEv, flat75, eq75, g, show i * 3 + 3 ≤ es.length * 3 by omega, w64 (x := (i : Int) + 1) (by omega)])]
 simp -implicitDefEqProofs [H_smE]
def H_sm (s o : Sy) (i : Nat) : St := ⟨[(2, .ptr 192 [] 0), (3, .ptr 256 [] 0), (5, .c (.v (.int .i64 i)))], foO s o⟩
theorem run_sameHist {j : Nat} (hj : big ≤ j) (s o : Sy) (h : Small s) (e : o.hist = s.hist) : M.run (j + 2) 21 [.agg (syR s), .agg (syR o)] = some ([.c (.v (.bool true))], [.agg (syR s), .agg (syR o)]) := by
 have b4 := h.hist
 rw [m_run (fn := Try.f21) (i0 := 0) rfl Try.func21 rfl rfl (by simp [syR])]
 simp -implicitDefEqProofs [syR, e]
 rw [loop_then (H_sm s o) s.hist.length (by simp -implicitDefEqProofs [H_sm, foO, sysO, sysO4, sysX, sysX4, hint1, e]) (by simp [big] at hj; omega) (fun p hp => by
  have e1 := run_sameEvents (j := j) hj s.hist[p] (h.his hp)
  simp -implicitDefEqProofs [H_sm, foO, sysO, sysO4, sysX, sysX4, hint1, own1, e, hp, rEvent_at hp, rEvent, e1, w64 (x := (p : Int) + 1) (by omega)])]
 simp -implicitDefEqProofs [H_sm, foO, sysO, sysO4, sysX, sysX4, e]
theorem run_sameStates {j : Nat} (hj : big ≤ j) (s o : Sy) (h : Small s) (e : o.states = s.states) : M.run (j + 3) 22 [.agg (syR s), .agg (syR o)] = some ([.c (.v (.bool true))], [.agg (syR s), .agg (syR o)]) := by
 have b2 := h.states
 rw [m_run (fn := Try.f22) (i0 := 0) rfl Try.func22 rfl rfl (by simp [syR])]
 simp -implicitDefEqProofs [syR, e]
 rw [loop_then (H_sm s o) s.states.length (by simp -implicitDefEqProofs [H_sm, foO, sysO, sysO4, sysX, sysX4, hint1, e]) (by simp [big] at hj; omega) (fun p hp => by
  obtain ⟨h1, h2⟩ := h.sta _ (List.getElem_mem hp)
  have e1 := run_sameSt (j := j) hj s.states[p] h1 h2
  simp only [tSta, stR] at e1
  simp -implicitDefEqProofs [H_sm, foO, sysO, sysO4, sysX, sysX4, hint1, own1, e, hp, e1, tSta, stR, stT_1 hp, stT_2 hp, show p * 4 + 4 ≤ s.states.length * 4 by omega, w64 (x := (p : Int) + 1) (by omega)])]
 simp -implicitDefEqProofs [H_sm, foO, sysO, sysO4, sysX, sysX4, e]
end Go.Proofs.Ytninncdacekfgaa.VM
