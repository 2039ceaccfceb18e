/- Clock, Hangs, Side: reckoned; their laws. -/
import Derived.Test.YtninncdacekfgaaK30
import Derived.Test.YtninncdacekfgaaK14
import Derived.Test.YtninncdacekfgaaK16
/- Clock, Hangs, Side: reckoned; their laws. -/
namespace Go.Proofs.Ytninncdacekfgaa.VM
open Go Go.Proofs
set_option linter.unusedSimpArgs false
set_option linter.unusedVariables false
set_option maxRecDepth 100000
set_option maxHeartbeats 40000000
noncomputable def clockI (S : Sy) (p i : Int) : List Int := if isEvB S p i = true then dL (clk S.hist p.toNat i.toNat) S.hist.length else []
noncomputable def bothB (S : Sy) (p i q j : Int) : Bool := isEvB S p i && (isEvB S q j && !(decide (p = q) && decide (i = j)))
noncomputable def hangB (S : Sy) (p i q j : Int) : Bool := bothB S p i q j && decide (j < (clk S.hist p.toNat i.toNat q.toNat : Int))
noncomputable def sideB (S : Sy) (p i q j : Int) : Bool := bothB S p i q j && (!hangB S p i q j && !hangB S q j p i)
theorem run_implHangs {j : Nat} (hj : big ≤ j) (s : Sy) (h : Small s) (p i q k : Int) : M.run (j + 12) 23 [.agg (syR s), .c (.v (.int .i64 p)), .c (.v (.int .i64 i)), .c (.v (.int .i64 q)), .c (.v (.int .i64 k))] = some ([.c (.v (.bool (hangB s p i q k)))], [.agg (syR s), .c (.v (.int .i64 p)), .c (.v (.int .i64 i)), .c (.v (.int .i64 q)), .c (.v (.int .i64 k))]) := by
 have e1 := run_isEvent hj s h p i
 have e2 := run_isEvent hj s h q k
 rw [m_run (fn := Try.f23) (i0 := 0) rfl Try.func23 rfl rfl (by simp [syR])]
 unfold hangB bothB
 simp only [syR] at e1 e2 ⊢
 cases hq : isEvB s p i
 ·rw [hq] at e1
  simp -implicitDefEqProofs [own1, e1]
 rw [hq] at e1
 cases hq2 : isEvB s q k
 ·rw [hq2] at e2
  simp -implicitDefEqProofs [own1, e1, e2]
 rw [hq2] at e2
 obtain ⟨h1, m, n, rfl, rfl, hm, hn⟩ := isEvB_at hq
 obtain ⟨_, m', n', rfl, rfl, hm', hn'⟩ := isEvB_at hq2
 have hf : fullD s.hist m = s.hist[m].length := by unfold fullD; rw [rowH_of hm]
 have e4 := run_clocks (j := j + 6) (by omega) s h1
 have fo := outT_at (d := fullD s.hist) hm
 have fk := rowC_at (h := s.hist) (p := m) (i := n) (k := fullD s.hist m) (by omega)
 have fl := dL_get (d := clk s.hist m n) (n := s.hist.length) hm'
 rw [hf] at fo fk
 simp only [syR] at e4
 by_cases c1 : m = m'
 ·subst c1
  by_cases c2 : n = n'
  ·subst c2
   simp -implicitDefEqProofs [own1, e1, e2]
  ·simp -implicitDefEqProofs [own1, e1, e2, e4, c2, show ¬ (n : Int) = n' by omega, fo, gq fo, fk, gq fk, fl, gq fl, hm, hm', hn]
 ·simp -implicitDefEqProofs [own1, e1, e2, e4, c1, show ¬ (m : Int) = m' by omega, fo, gq fo, fk, gq fk, fl, gq fl, hm, hm', hn]
end Go.Proofs.Ytninncdacekfgaa.VM

/- The laws FnExactClock, FnExactHangs, FnExactSide, reckoned. -/
namespace Go.Proofs.Ytninncdacekfgaa.VM
open Go Go.Proofs
set_option linter.unusedSimpArgs false
set_option linter.unusedVariables false
set_option maxRecDepth 100000
set_option maxHeartbeats 40000000
end Go.Proofs.Ytninncdacekfgaa.VM
