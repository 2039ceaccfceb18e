/- Clock, Hangs, Side: reckoned; their laws. -/
import Derived.Test.YtkgkbkpgpbpjhaaGreatK30g
import Derived.Test.YtkgkbkpgpbpjhaaGreatK14g
import Derived.Test.YtkgkbkpgpbpjhaaGreatK16g
set_option linter.unusedSimpArgs false
set_option linter.unusedVariables false
set_option maxRecDepth 100000
set_option maxHeartbeats 40000000
namespace Go.Proofs.YtkgkbkpgpbpjhaaGreat.VM
open Go Go.Proofs
noncomputable def clockI (S : Sy) (p i : Int) : List Int := if isEvB S p i = true then dL (clk S.hist p.toNat i.toNat) S.hist.length else []
noncomputable def bothB (S : Sy) (p i q j : Int) : Bool := isEvB S p i && (isEvB S q j && !(decide (p = q) && decide (i = j)))
noncomputable def hangB (S : Sy) (p i q j : Int) : Bool := bothB S p i q j && decide (j < (clk S.hist p.toNat i.toNat q.toNat : Int))
noncomputable def sideB (S : Sy) (p i q j : Int) : Bool := bothB S p i q j && (!hangB S p i q j && !hangB S q j p i)
theorem run_implClock {j : Nat} (hj : big ≤ j) (s : Sy) (h : Small s) (p i : Int) : M.run (j + 12) 58 [.agg (syR s), .c (.v (.int .i64 p)), .c (.v (.int .i64 i))] = some ([.c (.s 3 (clockI s p i).length (ints (clockI s p i)))], [.agg (syR s), .c (.v (.int .i64 p)), .c (.v (.int .i64 i))]) := by
 have e1 := run_isEvent hj s h p i
 rw [m_run (fn := Tryz.f58) (i0 := 0) rfl Tryz.func58 rfl rfl (by simp [syR])]
 unfold clockI
 simp only [syR] at e1 ⊢
 cases hq : isEvB s p i
 ·rw [hq] at e1
  simp -implicitDefEqProofs [own1, e1]
 ·rw [hq] at e1
  obtain ⟨h1, m, n, rfl, rfl, hm, hn⟩ := isEvB_at hq
  have hf : fullD s.hist m = s.hist[m].length := by unfold fullD; rw [rowH_of hm]
  have e2 := run_clocks (j := j + 6) (by omega) s h1
  have fo := outT_at (d := fullD s.hist) hm
  have fk := rowC_at (h := s.hist) (p := m) (i := n) (k := fullD s.hist m) (by omega)
  rw [hf] at fo fk
  have e3 := run_clone (j := j + 10) (dL (clk s.hist m n) s.hist.length) (by rw [dL_len]; exact h.hist)
  have tk : (dL (clk s.hist m n) s.hist.length).take s.hist.length = dL (clk s.hist m n) s.hist.length := List.take_of_length_le (by simp)
  rw [dL_len] at e3
  simp only [syR] at e2
  simp -implicitDefEqProofs [own1, e1, e2, e3, fo, gq fo, fk, gq fk, hm, hn, tk]
theorem run_specClock {j : Nat} (hj : big ≤ j) (s : Sy) (h : Small s) (p i : Int) : M.run (j + 9) 59 [.agg (syR s), .c (.v (.int .i64 p)), .c (.v (.int .i64 i))] = some ([.c (.s 3 (clockI s p i).length (ints (clockI s p i)))], [.agg (syR s), .c (.v (.int .i64 p)), .c (.v (.int .i64 i))]) := by
 have e1 := run_l7Has hj s h p i
 rw [m_run (fn := Tryz.f59) (i0 := 0) rfl Tryz.func59 rfl rfl (by simp [syR])]
 unfold clockI
 simp only [syR] at e1 ⊢
 cases hq : isEvB s p i
 ·rw [hq] at e1
  simp -implicitDefEqProofs [own1, e1]
 ·rw [hq] at e1
  obtain ⟨h1, m, n, rfl, rfl, hm, hn⟩ := isEvB_at hq
  have hf : fullD s.hist m = s.hist[m].length := by unfold fullD; rw [rowH_of hm]
  have e2 := run_l7Clocks (j := j + 4) (by omega) s h1
  have fo := outT_at (d := fullD s.hist) hm
  have fk := rowC_at (h := s.hist) (p := m) (i := n) (k := fullD s.hist m) (by omega)
  rw [hf] at fo fk
  have tk : (dL (clk s.hist m n) s.hist.length).take s.hist.length = dL (clk s.hist m n) s.hist.length := List.take_of_length_le (by simp)
  simp only [syR] at e2
  simp -implicitDefEqProofs [own1, e1, e2, fo, gq fo, fk, gq fk, hm, hn, tk, le_most (n := s.hist.length) h.hist]
theorem run_implHangs {j : Nat} (hj : big ≤ j) (s : Sy) (h : Small s) (p i q k : Int) : M.run (j + 12) 63 [.agg (syR s), .c (.v (.int .i64 p)), .c (.v (.int .i64 i)), .c (.v (.int .i64 q)), .c (.v (.int .i64 k))] = some ([.c (.v (.bool (hangB s p i q k)))], [.agg (syR s), .c (.v (.int .i64 p)), .c (.v (.int .i64 i)), .c (.v (.int .i64 q)), .c (.v (.int .i64 k))]) := by
 have e1 := run_isEvent hj s h p i
 have e2 := run_isEvent hj s h q k
 rw [m_run (fn := Tryz.f63) (i0 := 0) rfl Tryz.func63 rfl rfl (by simp [syR])]
 unfold hangB bothB
 simp only [syR] at e1 e2 ⊢
 cases hq : isEvB s p i
 ·rw [hq] at e1
  simp -implicitDefEqProofs [own1, e1]
 rw [hq] at e1
 cases hq2 : isEvB s q k
 ·rw [hq2] at e2
  simp -implicitDefEqProofs [own1, e1, e2]
 rw [hq2] at e2
 obtain ⟨h1, m, n, rfl, rfl, hm, hn⟩ := isEvB_at hq
 obtain ⟨_, m', n', rfl, rfl, hm', hn'⟩ := isEvB_at hq2
 have hf : fullD s.hist m = s.hist[m].length := by unfold fullD; rw [rowH_of hm]
 have e4 := run_clocks (j := j + 6) (by omega) s h1
 have fo := outT_at (d := fullD s.hist) hm
 have fk := rowC_at (h := s.hist) (p := m) (i := n) (k := fullD s.hist m) (by omega)
 have fl := dL_get (d := clk s.hist m n) (n := s.hist.length) hm'
 rw [hf] at fo fk
 simp only [syR] at e4
 by_cases c1 : m = m'
 ·subst c1
  by_cases c2 : n = n'
  ·subst c2
   simp -implicitDefEqProofs [own1, e1, e2]
  ·simp -implicitDefEqProofs [own1, e1, e2, e4, c2, show ¬ (n : Int) = n' by omega, fo, gq fo, fk, gq fk, fl, gq fl, hm, hm', hn]
 ·simp -implicitDefEqProofs [own1, e1, e2, e4, c1, show ¬ (m : Int) = m' by omega, fo, gq fo, fk, gq fk, fl, gq fl, hm, hm', hn]
theorem run_specHangs {j : Nat} (hj : big ≤ j) (s : Sy) (h : Small s) (p i q k : Int) : M.run (j + 9) 64 [.agg (syR s), .c (.v (.int .i64 p)), .c (.v (.int .i64 i)), .c (.v (.int .i64 q)), .c (.v (.int .i64 k))] = some ([.c (.v (.bool (hangB s p i q k)))], [.agg (syR s), .c (.v (.int .i64 p)), .c (.v (.int .i64 i)), .c (.v (.int .i64 q)), .c (.v (.int .i64 k))]) := by
 have e1 := run_l7Has hj s h p i
 have e2 := run_l7Has hj s h q k
 rw [m_run (fn := Tryz.f64) (i0 := 0) rfl Tryz.func64 rfl rfl (by simp [syR])]
 unfold hangB bothB
 simp only [syR] at e1 e2 ⊢
 cases hq : isEvB s p i
 ·rw [hq] at e1
  simp -implicitDefEqProofs [own1, e1]
 rw [hq] at e1
 cases hq2 : isEvB s q k
 ·rw [hq2] at e2
  simp -implicitDefEqProofs [own1, e1, e2]
 rw [hq2] at e2
 obtain ⟨h1, m, n, rfl, rfl, hm, hn⟩ := isEvB_at hq
 obtain ⟨_, m', n', rfl, rfl, hm', hn'⟩ := isEvB_at hq2
 have hf : fullD s.hist m = s.hist[m].length := by unfold fullD; rw [rowH_of hm]
 have e4 := run_l7Clocks (j := j + 4) (by omega) s h1
 have fo := outT_at (d := fullD s.hist) hm
 have fk := rowC_at (h := s.hist) (p := m) (i := n) (k := fullD s.hist m) (by omega)
 have fl := dL_get (d := clk s.hist m n) (n := s.hist.length) hm'
 rw [hf] at fo fk
 simp only [syR] at e4
 by_cases c1 : m = m'
 ·subst c1
  by_cases c2 : n = n'
  ·subst c2
   simp -implicitDefEqProofs [own1, e1, e2]
  ·simp -implicitDefEqProofs [own1, e1, e2, e4, c2, show ¬ (n : Int) = n' by omega, fo, gq fo, fk, gq fk, fl, gq fl, hm, hm', hn]
 ·simp -implicitDefEqProofs [own1, e1, e2, e4, c1, show ¬ (m : Int) = m' by omega, fo, gq fo, fk, gq fk, fl, gq fl, hm, hm', hn]
theorem run_implSide {j : Nat} (hj : big ≤ j) (s : Sy) (h : Small s) (p i q k : Int) : M.run (j + 13) 68 [.agg (syR s), .c (.v (.int .i64 p)), .c (.v (.int .i64 i)), .c (.v (.int .i64 q)), .c (.v (.int .i64 k))] = some ([.c (.v (.bool (sideB s p i q k)))], [.agg (syR s), .c (.v (.int .i64 p)), .c (.v (.int .i64 i)), .c (.v (.int .i64 q)), .c (.v (.int .i64 k))]) := by
 have e1 := run_isEvent (j := j + 1) (by omega) s h p i
 have e2 := run_isEvent (j := j + 1) (by omega) s h q k
 have e3 := run_implHangs hj s h p i q k
 have e4 := run_implHangs hj s h q k p i
 rw [m_run (fn := Tryz.f68) (i0 := 0) rfl Tryz.func68 rfl rfl (by simp [syR])]
 unfold sideB bothB
 simp only [syR] at e1 e2 e3 e4 ⊢
 generalize hangB s p i q k = x at *
 generalize hangB s q k p i = y at *
 cases hq : isEvB s p i
 ·rw [hq] at e1
  simp -implicitDefEqProofs [own1, e1]
 rw [hq] at e1
 cases hq2 : isEvB s q k
 ·rw [hq2] at e2
  simp -implicitDefEqProofs [own1, e1, e2]
 rw [hq2] at e2
 by_cases c1 : p = q
 ·by_cases c2 : i = k
  ·simp -implicitDefEqProofs [own1, e1, e2, c1, c2]
  ·cases x <;> simp -implicitDefEqProofs [own1, e1, e2, e3, e4, c1, c2] <;> (subst c1; simp -implicitDefEqProofs [own1, e1, e2, e3, e4, c2])
 ·cases x <;> simp -implicitDefEqProofs [own1, e1, e2, e3, e4, c1]
theorem run_specSide {j : Nat} (hj : big ≤ j) (s : Sy) (h : Small s) (p i q k : Int) : M.run (j + 10) 69 [.agg (syR s), .c (.v (.int .i64 p)), .c (.v (.int .i64 i)), .c (.v (.int .i64 q)), .c (.v (.int .i64 k))] = some ([.c (.v (.bool (sideB s p i q k)))], [.agg (syR s), .c (.v (.int .i64 p)), .c (.v (.int .i64 i)), .c (.v (.int .i64 q)), .c (.v (.int .i64 k))]) := by
 have e1 := run_l7Has (j := j + 1) (by omega) s h p i
 have e2 := run_l7Has (j := j + 1) (by omega) s h q k
 have e3 := run_specHangs hj s h p i q k
 have e4 := run_specHangs hj s h q k p i
 rw [m_run (fn := Tryz.f69) (i0 := 0) rfl Tryz.func69 rfl rfl (by simp [syR])]
 unfold sideB bothB
 simp only [syR] at e1 e2 e3 e4 ⊢
 generalize hangB s p i q k = x at *
 generalize hangB s q k p i = y at *
 cases hq : isEvB s p i
 ·rw [hq] at e1
  simp -implicitDefEqProofs [own1, e1]
 rw [hq] at e1
 cases hq2 : isEvB s q k
 ·rw [hq2] at e2
  simp -implicitDefEqProofs [own1, e1, e2]
 rw [hq2] at e2
 by_cases c1 : p = q
 ·by_cases c2 : i = k
  ·simp -implicitDefEqProofs [own1, e1, e2, c1, c2]
  ·cases x <;> simp -implicitDefEqProofs [own1, e1, e2, e3, e4, c1, c2] <;> (subst c1; simp -implicitDefEqProofs [own1, e1, e2, e3, e4, c2])
 ·cases x <;> simp -implicitDefEqProofs [own1, e1, e2, e3, e4, c1]
end Go.Proofs.YtkgkbkpgpbpjhaaGreat.VM
namespace Go.Proofs.YtkgkbkpgpbpjhaaGreat.VM
open Go Go.Proofs
end Go.Proofs.YtkgkbkpgpbpjhaaGreat.VM
