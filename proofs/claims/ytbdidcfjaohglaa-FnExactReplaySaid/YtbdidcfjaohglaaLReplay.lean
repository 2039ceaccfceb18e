/- The law FnExactReplay, reckoned. -/
import Derived.Test.YtbdidcfjaohglaaRep3
import Derived.Test.YtbdidcfjaohglaaIe
namespace Go.Proofs.Ytbdidcfjaohglaa.VM
open Go Go.Proofs
set_option linter.unusedSimpArgs false
set_option linter.unusedVariables false
set_option maxRecDepth 100000
set_option maxHeartbeats 40000000
theorem stepS_len (l : List Ins) (s : Sta) (e : Ev) : (stepS l s e).regs.length = s.regs.length ∧ (stepS l s e).out.length ≤ s.out.length + 1 := didF_len _ _ _ _
theorem stAt_len (l : List Ins) (es : List Ev) : ∀ n, (stAt l es n).regs.length = 4 ∧ (stAt l es n).out.length ≤ n
  | 0 => ⟨rfl, by simp [stAt, s0]⟩
  | n + 1 => by
    have h1 := stAt_len l es n
    have h2 := stepS_len l (stAt l es n) (evAt es n)
    exact ⟨h2.1.trans h1.1, by show (stepS l (stAt l es n) (evAt es n)).out.length ≤ n + 1; omega⟩
theorem replayS_len (l : List Ins) (es : List Ev) : (replayS l es).regs.length ≤ 4 ∧ (replayS l es).out.length ≤ es.length := by
  unfold replayS repS
  have := stAt_len l es es.length
  (repeat' split) <;> simp [this]
theorem run_FnExactReplay {j : Nat} (hj : big ≤ j) (l : List Ins) (es : List Ev) (hl : l.length ≤ 9223372036854775807) (hn : es.length ≤ 9223372036854775807) :
    M.run (j + 9) 7 [.c (.r 112 l.length (insT l)), .c (.r 52 es.length (evT es))] = some ([.c (.v (.bool true))], [.c (.r 112 l.length (insT l)), .c (.r 52 es.length (evT es))]) := by
  have hD := replayS_len l es
  rw [m_run (fn := Try.f7) (i0 := 0) rfl Try.func7 rfl rfl (by simp)]
  by_cases h1 : (1048576 : Int) - l.length < 0
  · simp -implicitDefEqProofs [own1, run42 l.length _ 1048576 hl (by omega), h1]
  · by_cases h2 : (1048576 : Int) - l.length - es.length < 0
    · simp -implicitDefEqProofs [own1, run42 l.length _ 1048576 hl (by omega), h1, run_szEventS es.length _ (1048576 - l.length) hn (by omega), h2]
    · have e1 := run42 (j := j + 7) l.length (insT l) 1048576 hl (by omega)
      have e2 := run_szEventS (j := j + 7) es.length (evT es) (1048576 - l.length) hn (by omega)
      have e3 := run45 (j := j + 6) (by omega) l (by omega)
      have e4 := run_toEventS (j := j + 6) (by omega) es (by omega)
      have e5 := run_specReplay (j := j + 2) (by omega) l es (by omega) (by omega)
      have e6 := run_implReplay (j := j) (by omega) l es (by omega) (by omega)
      have e7 := run17 (j := j + 6) (by omega) (replayS l es).at_ (replayS l es).code (replayS l es).regs (replayS l es).out (by omega) (by omega)
      have e8 := run48 (j := j + 6) (by omega) l (by omega)
      have e9 := run_eqEventS (j := j + 6) (by omega) es (by omega)
      have ea := run_markInsS (j := j + 7) (by omega) l 1 (by omega)
      have eb := run_markEventS (j := j + 7) (by omega) es (1 + 5 * l.length) (by omega)
      have ec := run18 (j := j + 6) (by omega) (replayS l es).at_ (replayS l es).code (replayS l es).regs (replayS l es).out 1 (by omega)
      have ed := run19 (j := j + 6) (by omega) (replayS l es).at_ (replayS l es).code (replayS l es).regs.length (replayS l es).out.length 1 (by omega)
      generalize replayS l es = D at *
      generalize replayB l es = B at *
      have n1 : ¬ (1 + 5 * (l.length : Int) + 3 * (es.length : Int) < 0) := by omega
      have n2 : ¬ (1 + (D.regs.length : Int) + D.out.length < 0) := by omega
      simp -implicitDefEqProofs [stR, sSta, stS, h1, h2] at e1 e2 e3 e4 e5 e6 e7 e8 e9 ea eb ec ed
      simp -implicitDefEqProofs (maxSteps := 10000000) [stR, own1, e1, e2, e3, e4, e5, e6, e7, e8, e9, ea, eb, ec, ed, h1, h2, n1, n2]
theorem law_FnExactReplay (l : List Ins) (es : List Ev) (hl : (∀ x ∈ l, insOk x) ∧ l.length ≤ maxLen) (hn : (∀ x ∈ es, evOk x) ∧ es.length ≤ maxLen) : ∃ k xs, M.run k 7 [.c (.r 112 l.length (insT l)), .c (rr 52 tEv es)] = some ([.c (.v (.bool true))], xs) :=
  ⟨big + 9, _, run_FnExactReplay (Nat.le_refl _) l es hl.2 hn.2⟩
end Go.Proofs.Ytbdidcfjaohglaa.VM
