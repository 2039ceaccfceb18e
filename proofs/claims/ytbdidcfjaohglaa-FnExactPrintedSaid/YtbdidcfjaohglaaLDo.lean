/- The law FnExactDo, reckoned. -/
import Derived.Test.YtbdidcfjaohglaaDo3
import Derived.Test.YtbdidcfjaohglaaMi
import Derived.Test.YtbdidcfjaohglaaOp2
namespace Go.Proofs.Ytbdidcfjaohglaa.VM
open Go Go.Proofs
set_option linter.unusedSimpArgs false
set_option linter.unusedVariables false
set_option maxRecDepth 100000
set_option maxHeartbeats 40000000
theorem run_toEvent {j : Nat} (e : Ev) : M.run (j + 1) 28 [.agg (tEv e)] = some ([.agg (tEv e)], [.agg (tEv e)]) := by
  rw [m_run (fn := Try.f28) (i0 := 0) rfl Try.func28 rfl rfl (by simp [tEv])]
  simp -implicitDefEqProofs [tEv]
theorem goF_len (n : Nat) (s : Sta) (k : Int) : (goF n s k).regs.length = s.regs.length ∧ (goF n s k).out.length = s.out.length := by
  unfold goF
  split <;> exact ⟨rfl, rfl⟩
theorem didF_len (x : Ins) (n : Nat) (s : Sta) (v : Int) : (didF x n s v).regs.length = s.regs.length ∧ (didF x n s v).out.length ≤ s.out.length + 1 := by
  unfold didF
  (repeat' split) <;> simp [goF_len]
theorem doS_len (l : List Ins) (s : Sta) (e : Ev) : (doS l s e).regs.length = s.regs.length ∧ (doS l s e).out.length ≤ s.out.length + 1 := by
  unfold doS oneF
  (repeat' split) <;> simp [didF_len]
theorem run_FnExactDo {j : Nat} (hj : big ≤ j) (l : List Ins) (s : Sta) (e : Ev) (hl : l.length ≤ 9223372036854775807) (hx : s.regs.length ≤ 9223372036854775807) (hy : s.out.length ≤ 9223372036854775807) :
    M.run (j + 10) 5 [.c (.r 112 l.length (insT l)), .agg (tSta s), .agg (tEv e)] = some ([.c (.v (.bool true))], [.c (.r 112 l.length (insT l)), .agg (tSta s), .agg (tEv e)]) := by
  have e0 := run43 (j := j + 7) s.at_ s.code s.regs s.out (1048576 - l.length) hx hy
  have hD := doS_len l s e
  rw [m_run (fn := Try.f5) (i0 := 0) rfl Try.func5 rfl rfl (by simp [tSta, stR, tEv])]
  by_cases h1 : (1048576 : Int) - l.length < 0
  · simp -implicitDefEqProofs [tSta, stR, tEv, own1, run42 l.length _ 1048576 hl (by omega), h1]
  · have e0 := e0 (by omega)
    by_cases h2 : (1048576 : Int) - l.length - s.regs.length < 0
    · simp -implicitDefEqProofs [stR, h2] at e0
      simp -implicitDefEqProofs [tSta, stR, tEv, own1, run42 l.length _ 1048576 hl (by omega), h1, e0]
    · by_cases h3 : (1048576 : Int) - l.length - s.regs.length - s.out.length < 0
      · simp -implicitDefEqProofs [stR, h2, h3] at e0
        simp -implicitDefEqProofs [tSta, stR, tEv, own1, run42 l.length _ 1048576 hl (by omega), h1, e0]
      · have e1 := run42 (j := j + 8) l.length (insT l) 1048576 hl (by omega)
        have e2 := run46 (j := j + 7) (by omega) s.at_ s.code s.regs s.out (by omega) (by omega)
        have e3 := run45 (j := j + 7) (by omega) l (by omega)
        have e4 := run_toEvent (j := j + 8) e
        have e5 := run96 (j := j + 3) (by omega) l s e (by omega) (by omega) (by omega)
        have e6 := run_Do (j := j) (by omega) l s e (by omega) (by omega) (by omega)
        have e7 := run17 (j := j + 7) (by omega) (doS l s e).at_ (doS l s e).code (doS l s e).regs (doS l s e).out (by omega) (by omega)
        have e8 := run48 (j := j + 7) (by omega) l (by omega)
        have e9 := run17 (j := j + 7) (by omega) s.at_ s.code s.regs s.out (by omega) (by omega)
        have ea := run_markInsS (j := j + 8) (by omega) l 1 (by omega)
        have eb := run18 (j := j + 7) (by omega) s.at_ s.code s.regs s.out (1 + 5 * l.length) (by omega)
        have ec := run18 (j := j + 7) (by omega) (doS l s e).at_ (doS l s e).code (doS l s e).regs (doS l s e).out 1 (by omega)
        have ed := run19 (j := j + 7) (by omega) (doS l s e).at_ (doS l s e).code (doS l s e).regs.length (doS l s e).out.length 1 (by omega)
        generalize doS l s e = D at *
        generalize doB l s e = B at *
        have n1 : ¬ (1 + 5 * (l.length : Int) + s.regs.length + s.out.length < 0) := by omega
        have n2 : ¬ (1 + (D.regs.length : Int) + D.out.length < 0) := by omega
        simp -implicitDefEqProofs [tSta, stR, sSta, stS, tEv, h1, h2, h3] at e0 e1 e2 e3 e4 e5 e6 e7 e8 e9 ea eb ec ed
        simp -implicitDefEqProofs (maxSteps := 10000000) [tSta, stR, tEv, own1, e0, e1, e2, e3, e4, e5, e6, e7, e8, e9, ea, eb, ec, ed, h1, h2, h3, n1, n2]
theorem law_FnExactDo (l : List Ins) (s : Sta) (e : Ev) (hl : (∀ x ∈ l, insOk x) ∧ l.length ≤ maxLen) (hs : staOk s) (_ : evOk e) : ∃ k xs, M.run k 5 [.c (.r 112 l.length (insT l)), .agg (tSta s), .agg (tEv e)] = some ([.c (.v (.bool true))], xs) :=
  ⟨big + 10, _, run_FnExactDo (Nat.le_refl _) l s e hl.2 hs.2.1.2 hs.2.2.1.2⟩
end Go.Proofs.Ytbdidcfjaohglaa.VM
