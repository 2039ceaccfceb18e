/- Next reckoned, and the law FnExactNext. -/
import Derived.Test.YtbdidcfjaohglaaFn8
import Derived.Test.YtbdidcfjaohglaaFn5
namespace Go.Proofs.Ytbdidcfjaohglaa.VM
open Go Go.Proofs
set_option linter.unusedSimpArgs false
set_option linter.unusedVariables false
set_option maxRecDepth 100000
set_option maxHeartbeats 4000000
structure Ev where
  kind : Int
  peer : Int
  v : Int
def tEv (e : Ev) : List T := [.v (.int .i64 e.kind), .v (.int .i64 e.peer), .v (.int .i64 e.v)]
/-- What comes next, of what is right and runs. -/
def nextE (x : Ins) (regs : List Int) : Ev := if x.op = 6 then ⟨2, x.n, (regs[x.a.toNat]?).getD 0⟩ else if x.op = 7 then ⟨3, x.n, 0⟩ else if x.op = 8 then ⟨4, 0, (regs[x.a.toNat]?).getD 0⟩ else ⟨1, 0, 0⟩
theorem run83 {j : Nat} (l : List Ins) (i : Nat) (hi : i < l.length) (c : Int) (xs ys : List Int) (hx : xs.length = 4) (ha : l[i].op = 6 ∨ l[i].op = 8 → 0 ≤ l[i].a ∧ l[i].a < 4) :
    M.run (j + 1) 88 [.c (.r 110 l.length (insT l)), .agg (stR i xs ys c)] = some ([.agg (tEv (nextE l[i] xs))], [.c (.r 110 l.length (insT l)), .agg (stR i xs ys c)]) := by
  rw [m_run (fn := Try.f88) (i0 := 0) rfl Try.func88 rfl rfl (by simp [stR])]
  unfold nextE
  by_cases h6 : l[i].op = 6
  · obtain ⟨k, hk⟩ : ∃ k : Nat, l[i].a = k := ⟨l[i].a.toNat, by have := ha (.inl h6); omega⟩
    have hk4 : k < xs.length := by have := ha (.inl h6); omega
    simp -implicitDefEqProofs [stR, own1, hi, show i * 5 + 5 ≤ l.length * 5 by omega, tIns, tEv, h6, hk, hk4]
  by_cases h7 : l[i].op = 7
  · simp -implicitDefEqProofs [stR, own1, hi, show i * 5 + 5 ≤ l.length * 5 by omega, tIns, tEv, h7]
  by_cases h8 : l[i].op = 8
  · obtain ⟨k, hk⟩ : ∃ k : Nat, l[i].a = k := ⟨l[i].a.toNat, by have := ha (.inr h8); omega⟩
    have hk4 : k < xs.length := by have := ha (.inr h8); omega
    simp -implicitDefEqProofs [stR, own1, hi, show i * 5 + 5 ≤ l.length * 5 by omega, tIns, tEv, h8, hk, hk4]
  simp -implicitDefEqProofs [stR, own1, hi, show i * 5 + 5 ≤ l.length * 5 by omega, tIns, tEv, h6, h7, h8]
theorem run84 {j : Nat} (l : List Ins) (i : Nat) (hi : i < l.length) (c : Int) (xs ys : List Int) (hx : xs.length = 4) (ha : l[i].op = 6 ∨ l[i].op = 8 → 0 ≤ l[i].a ∧ l[i].a < 4) :
    M.run (j + 1) 87 [.c (.r 110 l.length (insT l)), .agg (stR i xs ys c)] = some ([.agg (tEv (nextE l[i] xs))], [.c (.r 110 l.length (insT l)), .agg (stR i xs ys c)]) := by
  rw [m_run (fn := Try.f87) (i0 := 0) rfl Try.func87 rfl rfl (by simp [stR])]
  unfold nextE
  by_cases h6 : l[i].op = 6
  · obtain ⟨k, hk⟩ : ∃ k : Nat, l[i].a = k := ⟨l[i].a.toNat, by have := ha (.inl h6); omega⟩
    have hk4 : k < xs.length := by have := ha (.inl h6); omega
    simp -implicitDefEqProofs [stR, own1, hi, show i * 5 + 5 ≤ l.length * 5 by omega, tIns, tEv, h6, hk, hk4]
  by_cases h7 : l[i].op = 7
  · simp -implicitDefEqProofs [stR, own1, hi, show i * 5 + 5 ≤ l.length * 5 by omega, tIns, tEv, h7]
  by_cases h8 : l[i].op = 8
  · obtain ⟨k, hk⟩ : ∃ k : Nat, l[i].a = k := ⟨l[i].a.toNat, by have := ha (.inr h8); omega⟩
    have hk4 : k < xs.length := by have := ha (.inr h8); omega
    simp -implicitDefEqProofs [stR, own1, hi, show i * 5 + 5 ≤ l.length * 5 by omega, tIns, tEv, h8, hk, hk4]
  simp -implicitDefEqProofs [stR, own1, hi, show i * 5 + 5 ≤ l.length * 5 by omega, tIns, tEv, h6, h7, h8]
/-- A program and its state are right, and it runs. -/
def okN (l : List Ins) (a c : Int) (xs ys : List Int) : Bool := progB l 4 && (stOkB l.length a xs ys c && (c == 0))
def nextF (l : List Ins) (a c : Int) (xs ys : List Int) : Ev := if okN l a c xs ys = true then nextE ((l[a.toNat]?).getD ⟨0, 0, 0, 0, 0⟩) xs else ⟨0, 0, 0⟩
theorem insB_a {x : Ins} {n m : Int} (h : insB x n m = true) (h6 : x.op = 6 ∨ x.op = 8) : 0 ≤ x.a ∧ x.a < 4 := by
  simp only [insB, Bool.and_eq_true] at h
  have := h.1.1.2
  rcases h6 with h6 | h6 <;> (simp [regB, inB, hasB, formL, h6] at this; omega)
theorem okN_at {l : List Ins} {a c : Int} {xs ys : List Int} (h : okN l a c xs ys = true) : ∃ i : Nat, ∃ hi : i < l.length, a = i ∧ c = 0 ∧ xs.length = 4 ∧ ((l[a.toNat]?).getD ⟨0, 0, 0, 0, 0⟩) = l[i] ∧ (l[i].op = 6 ∨ l[i].op = 8 → 0 ≤ l[i].a ∧ l[i].a < 4) := by
  simp only [okN, progB, stOkB, Bool.and_eq_true, decide_eq_true_eq, beq_iff_eq] at h
  have ha : 0 ≤ a ∧ a ≤ (l.length : Int) - 1 := inB_le (by simp_all)
  obtain ⟨i, rfl⟩ : ∃ i : Nat, a = i := ⟨a.toNat, by omega⟩
  refine ⟨i, by omega, rfl, h.2.2, by simp_all, by simp [show i < l.length by omega], fun h6 => ?_⟩
  have := List.all_eq_true.1 h.1.2 l[i] (List.getElem_mem _)
  exact insB_a this h6
theorem run82 {j : Nat} (hj : big ≤ j) (l : List Ins) (a c : Int) (xs ys : List Int) (hl : l.length ≤ 1048576) (hx : xs.length ≤ 1048576) (hy : ys.length ≤ 1048576) :
    M.run (j + 5) 73 [.c (.r 110 l.length (insT l)), .agg (stR a xs ys c)] = some ([.c (.v (.bool (okN l a c xs ys)))], [.c (.r 110 l.length (insT l)), .agg (stR a xs ys c)]) := by
  rw [m_run (fn := Try.f73) (i0 := 0) rfl Try.func73 rfl rfl (by simp [stR])]
  have e1 := run49 hj l 4 hl
  have e2 := run44 (j := j + 1) (by omega) l a c xs ys hl hx hy
  unfold okN
  simp only [stR] at e2 ⊢
  cases h1 : progB l 4 <;> rw [h1] at e1
  · simp -implicitDefEqProofs [own1, e1]
  cases h2 : stOkB l.length a xs ys c <;> rw [h2] at e2
  · simp -implicitDefEqProofs [own1, e1, e2]
  · simp -implicitDefEqProofs [own1, e1, e2]
theorem run54 {j : Nat} (hj : big ≤ j) (l : List Ins) (a c : Int) (xs ys : List Int) (hl : l.length ≤ 1048576) (hx : xs.length ≤ 1048576) (hy : ys.length ≤ 1048576) :
    M.run (j + 6) 38 [.c (.r 110 l.length (insT l)), .agg (stR a xs ys c)] = some ([.agg (tEv (nextF l a c xs ys))], [.c (.r 110 l.length (insT l)), .agg (stR a xs ys c)]) := by
  rw [m_run (fn := Try.f38) (i0 := 0) rfl Try.func38 rfl rfl (by simp [stR])]
  have e1 := run82 hj l a c xs ys hl hx hy
  unfold nextF
  cases h1 : okN l a c xs ys
  · rw [h1] at e1
    simp only [stR] at e1 ⊢
    simp -implicitDefEqProofs [own1, e1, tEv]
  · obtain ⟨i, hi, rfl, rfl, hx4, hg, h6⟩ := okN_at h1
    have e2 := run83 (j := j + 4) l i hi 0 xs ys hx4 h6
    rw [h1] at e1
    rw [hg]
    simp only [stR, tEv] at e1 e2 ⊢
    simp -implicitDefEqProofs [own1, e1, e2]
theorem run55 {j : Nat} (hj : big ≤ j) (l : List Ins) (a c : Int) (xs ys : List Int) (hl : l.length ≤ 1048576) (hx : xs.length ≤ 1048576) (hy : ys.length ≤ 1048576) :
    M.run (j + 8) 37 [.c (.r 110 l.length (insT l)), .agg (stR a xs ys c)] = some ([.agg (tEv (nextF l a c xs ys))], [.c (.r 110 l.length (insT l)), .agg (stR a xs ys c)]) := by
  rw [m_run (fn := Try.f37) (i0 := 0) rfl Try.func37 rfl rfl (by simp [stR])]
  have e1 := run50 hj l 4 hl
  have e2 := run47 (j := j) (by omega) l a c xs ys hl hx hy
  unfold nextF
  cases h1 : okN l a c xs ys
  · unfold okN at h1
    simp only [stR] at e2 ⊢
    cases g1 : progB l 4 <;> rw [g1] at e1 h1
    · simp -implicitDefEqProofs [own1, e1, tEv]
    cases g2 : stOkB l.length a xs ys c <;> rw [g2] at e2 h1
    · simp -implicitDefEqProofs [own1, e1, e2, tEv]
    · have hc : ¬ c = 0 := by simpa using h1
      simp -implicitDefEqProofs [own1, e1, e2, tEv, hc]
  · obtain ⟨i, hi, rfl, rfl, hx4, hg, h6⟩ := okN_at h1
    have e3 := run84 (j := j + 6) l i hi 0 xs ys hx4 h6
    unfold okN at h1
    simp only [Bool.and_eq_true] at h1
    rw [h1.1] at e1
    rw [h1.2.1] at e2
    rw [hg]
    simp only [stR, tEv] at e2 e3 ⊢
    simp -implicitDefEqProofs [own1, e1, e2, e3]
theorem run56 {j : Nat} (e : Ev) : M.run (j + 1) 96 [.agg (tEv e), .agg (tEv e)] = some ([.c (.v (.bool true))], [.agg (tEv e), .agg (tEv e)]) := by
  rw [m_run (fn := Try.f96) (i0 := 0) rfl Try.func96 rfl rfl (by simp [tEv])]
  simp -implicitDefEqProofs [tEv]
end Go.Proofs.Ytbdidcfjaohglaa.VM
