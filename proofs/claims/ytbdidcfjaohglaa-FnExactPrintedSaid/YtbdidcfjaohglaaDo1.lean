/- Do of the specification reckoned. -/
import Derived.Test.YtbdidcfjaohglaaFn9
import Derived.Test.YtbdidcfjaohglaaOp
namespace Go.Proofs.Ytbdidcfjaohglaa.VM
open Go Go.Proofs
set_option linter.unusedSimpArgs false
set_option linter.unusedVariables false
set_option maxRecDepth 100000
set_option maxHeartbeats 40000000
def sSta (s : Sta) : List T := stS s.at_ s.regs s.out s.code
/-- A state that was given away. -/
def hSta (s : Sta) : List T := [.v (.int .i64 s.at_), .h, .h, .v (.int .i64 s.code)]
/-- On to a place; a fault where there is none. -/
def goF (n : Nat) (s : Sta) (a' : Int) : Sta := if inB a' 0 ((n : Int) - 1) = true then ⟨a', s.regs, s.out, s.code⟩ else ⟨s.at_, s.regs, s.out, 2⟩
/-- A register. -/
def rg (xs : List Int) (k : Int) : Int := (xs[k.toNat]?).getD 0
/-- What is put into a register. -/
def valF (x : Ins) (xs : List Int) : Int := if x.op = 1 then x.n else if x.op = 2 then rg xs x.a + rg xs x.b else if x.op = 3 then rg xs x.a - rg xs x.b else if x.op = 4 then rg xs x.a * rg xs x.b else if rg xs x.a < rg xs x.b then 1 else 0
/-- What is behind an event that comes. -/
def didF (x : Ins) (n : Nat) (s : Sta) (v : Int) : Sta :=
  if x.op = 7 then goF n ⟨s.at_, s.regs.set x.r.toNat v, s.out, s.code⟩ (s.at_ + 1)
  else if x.op = 8 then (if 60 ≤ s.out.length then ⟨s.at_, s.regs, s.out, 2⟩ else goF n ⟨s.at_, s.regs, s.out ++ [v], s.code⟩ (s.at_ + 1))
  else if x.op = 9 then goF n s x.n
  else if x.op = 10 then (if rg s.regs x.a = 0 then goF n s x.n else goF n s (s.at_ + 1))
  else if x.op = 11 then ⟨s.at_, s.regs, s.out, 1⟩
  else if x.op = 6 then goF n s (s.at_ + 1)
  else if numB (valF x s.regs) = true then goF n ⟨s.at_, s.regs.set x.r.toNat (valF x s.regs), s.out, s.code⟩ (s.at_ + 1) else ⟨s.at_, s.regs, s.out, 2⟩
/-- May it come. -/
def comesB (e w : Ev) : Bool := if w.kind = 3 ∧ e.kind = 3 then numB e.v && ((e.peer == w.peer && w.peer != 9) || (w.peer == 9 && inB e.peer 0 3)) else e.kind == w.kind && (e.peer == w.peer && e.v == w.v)
/-- An instruction, and registers, in which all is right. -/
structure Rt (x : Ins) (n : Nat) (s : Sta) : Prop where
  at0 : 0 ≤ s.at_ ∧ s.at_ < n
  le : n ≤ 1048576
  regs : s.regs.length = 4
  nums : ∀ v ∈ s.regs, numB v = true
  out : s.out.length ≤ 60
  r : 0 ≤ x.r ∧ x.r < 4
  a : 0 ≤ x.a ∧ x.a < 4
  b : 0 ≤ x.b ∧ x.b < 4
  op : 1 ≤ x.op ∧ x.op ≤ 11
  place : x.op = 9 ∨ x.op = 10 → 0 ≤ x.n ∧ x.n < n
  peer : x.op = 7 → x.n = 9 ∨ (0 ≤ x.n ∧ x.n < 4)
theorem run97 {j : Nat} (s : Sta) (h1 : s.regs.length ≤ 1048576) (h2 : s.out.length ≤ 1048576) : M.run (j + 1) 74 [.agg (tSta s)] = some ([.agg (sSta s)], [.agg (tSta s)]) := by
  rw [m_run (fn := Try.f74) (i0 := 0) rfl Try.func74 rfl rfl (by simp [tSta, stR])]
  simp -implicitDefEqProofs [tSta, stR, sSta, stS, own1, le_most h1, le_most h2]
theorem run100 {j : Nat} (s : Sta) : M.run (j + 1) 102 [.agg (sSta s)] = some ([.agg (sSta ⟨s.at_, s.regs, s.out, 2⟩)], [.agg (hSta s)]) := by
  rw [m_run (fn := Try.f102) (i0 := 0) rfl Try.func102 rfl rfl (by simp [sSta, stS])]
  simp -implicitDefEqProofs [hSta, stR, sSta, stS, own1]
theorem run99 {j : Nat} (s : Sta) (n : Nat) (l : List T) (ha : 0 ≤ s.at_ ∧ s.at_ < n) (hn : n ≤ 1048576) : M.run (j + 2) 101 [.c (.r 110 n l), .agg (sSta s)] = some ([.agg (sSta (goF n s (s.at_ + 1)))], [.c (.r 110 n l), .agg (hSta s)]) := by
  rw [m_run (fn := Try.f101) (i0 := 0) rfl Try.func101 rfl rfl (by simp [sSta, stS])]
  have e := run100 (j := j) s
  unfold goF inB
  by_cases h : (n : Int) ≤ s.at_ + 1
  · rw [if_neg (by simp; omega)]
    simp only [sSta, stS, hSta] at e ⊢
    simp -implicitDefEqProofs [own1, e, h, w64 (x := s.at_ + 1) (by omega)]
  · rw [if_pos (by simp; omega)]
    simp only [sSta, stS, hSta] at e ⊢
    simp -implicitDefEqProofs [own1, e, h, w64 (x := s.at_ + 1) (by omega)]
theorem mul_num {p q : Int} (hp : numB p = true) (hq : numB q = true) : -1000000000000000000 ≤ p * q ∧ p * q ≤ 1000000000000000000 := by
  have hp := inB_le hp
  have hq := inB_le hq
  have h : (p * q).natAbs ≤ 1000000000 * 1000000000 := by
    rw [Int.natAbs_mul]
    exact Nat.mul_le_mul (by omega) (by omega)
  generalize p * q = m at *
  omega
theorem run101 {j : Nat} (l : List Ins) (i : Nat) (hi : i < l.length) (xs ys : List Int) (c : Int) (R : Rt l[i] l.length ⟨i, xs, ys, c⟩) (h6 : ¬ l[i].op = 6) (h7 : ¬ l[i].op = 7) (h8 : ¬ l[i].op = 8) (v : Int) :
    M.run (j + 3) 103 [.c (.r 110 l.length (insT l)), .agg (stS i xs ys c)] = some ([.agg (sSta (didF l[i] l.length ⟨i, xs, ys, c⟩ v))], [.c (.r 110 l.length (insT l)), .agg (hSta ⟨i, xs, ys, c⟩)]) := by
  have hx : xs.length = 4 := R.regs
  have hle := R.le
  obtain ⟨ka, hka⟩ : ∃ k : Nat, l[i].a = k := ⟨l[i].a.toNat, by have := R.a; omega⟩
  obtain ⟨kb, hkb⟩ : ∃ k : Nat, l[i].b = k := ⟨l[i].b.toNat, by have := R.b; omega⟩
  obtain ⟨kr, hkr⟩ : ∃ k : Nat, l[i].r = k := ⟨l[i].r.toNat, by have := R.r; omega⟩
  have la : ka < xs.length := by have := R.a; omega
  have lb : kb < xs.length := by have := R.b; omega
  have lr : kr < xs.length := by have := R.r; omega
  have lr' : kr + 1 ≤ xs.length := by omega
  have ra : rg xs l[i].a = xs[ka] := by simp [rg, hka, la]
  have rb : rg xs l[i].b = xs[kb] := by simp [rg, hkb, lb]
  have na : numB xs[ka] = true := R.nums _ (List.getElem_mem _)
  have nb : numB xs[kb] = true := R.nums _ (List.getElem_mem _)
  have na' := inB_le na
  have nb' := inB_le nb
  have hi5 : i * 5 + 5 ≤ l.length * 5 := by omega
  have hop := R.op
  have eg := run99 (j := j) ⟨i, xs, ys, c⟩ l.length (insT l) ⟨by simp, by simpa using hi⟩ hle
  have ef := run100 (j := j + 1) ⟨i, xs, ys, c⟩
  have es : ∀ m : Int, M.run (j + 2) 101 [.c (.r 110 l.length (insT l)), .agg (sSta ⟨i, xs.set kr m, ys, c⟩)] = some ([.agg (sSta (goF l.length ⟨i, xs.set kr m, ys, c⟩ (i + 1)))], [.c (.r 110 l.length (insT l)), .agg (hSta ⟨i, xs.set kr m, ys, c⟩)]) := fun m => run99 (j := j) ⟨i, xs.set kr m, ys, c⟩ l.length (insT l) ⟨by simp, by simpa using hi⟩ hle
  simp -implicitDefEqProofs [sSta, stS, hSta] at eg ef es
  rw [m_run (fn := Try.f103) (i0 := 0) rfl Try.func103 rfl rfl (by simp [stS])]
  simp -implicitDefEqProofs [stS, own1, hi, hi5, tIns, hka, hkb, la, lb]
  by_cases o11 : l[i].op = 11
  · rw [show didF l[i] l.length ⟨i, xs, ys, c⟩ v = ⟨i, xs, ys, 1⟩ by simp [didF, o11]]
    simp -implicitDefEqProofs [sSta, stS, hSta, o11]
  by_cases o9 : l[i].op = 9
  · have hp := R.place (.inl o9)
    rw [show didF l[i] l.length ⟨i, xs, ys, c⟩ v = ⟨l[i].n, xs, ys, c⟩ by simp [didF, o9, goF, inB]; omega]
    simp -implicitDefEqProofs [sSta, stS, hSta, o9]
  by_cases o10 : l[i].op = 10
  · have hp := R.place (.inr o10)
    by_cases z : xs[ka] = 0
    · rw [show didF l[i] l.length ⟨i, xs, ys, c⟩ v = ⟨l[i].n, xs, ys, c⟩ by simp [didF, o10, ra, z, goF, inB]; omega]
      simp -implicitDefEqProofs [sSta, stS, hSta, o10, z]
    · rw [show didF l[i] l.length ⟨i, xs, ys, c⟩ v = goF l.length ⟨i, xs, ys, c⟩ (i + 1) by simp [didF, o10, ra, z]]
      simp -implicitDefEqProofs [sSta, stS, hSta, o10, z, own1, eg]
  have rest : ∀ m : Int, valF l[i] xs = m → didF l[i] l.length ⟨i, xs, ys, c⟩ v = if numB m = true then goF l.length ⟨i, xs.set kr m, ys, c⟩ (i + 1) else ⟨i, xs, ys, 2⟩ := fun m hm => by
    simp [didF, h6, h7, h8, o9, o10, o11, hm, hkr]
  by_cases o1 : l[i].op = 1
  · rw [rest l[i].n (by simp [valF, o1])]
    cases q : numB l[i].n
    · simp -implicitDefEqProofs [sSta, stS, hSta, own1, o1, run62, q, ef]
    · simp -implicitDefEqProofs [sSta, stS, hSta, own1, o1, run62, q, es, hkr, lr, lr']
  by_cases o2 : l[i].op = 2
  · rw [rest (xs[ka] + xs[kb]) (by simp [valF, o2, ra, rb])]
    cases q : numB (xs[ka] + xs[kb])
    · simp -implicitDefEqProofs [sSta, stS, hSta, own1, o2, w64 (x := xs[ka] + xs[kb]) (by omega), run62, q, ef]
    · simp -implicitDefEqProofs [sSta, stS, hSta, own1, o2, w64 (x := xs[ka] + xs[kb]) (by omega), run62, q, es, hkr, lr, lr']
  by_cases o3 : l[i].op = 3
  · rw [rest (xs[ka] - xs[kb]) (by simp [valF, o3, ra, rb])]
    cases q : numB (xs[ka] - xs[kb])
    · simp -implicitDefEqProofs [sSta, stS, hSta, own1, o3, w64 (x := xs[ka] - xs[kb]) (by omega), run62, q, ef]
    · simp -implicitDefEqProofs [sSta, stS, hSta, own1, o3, w64 (x := xs[ka] - xs[kb]) (by omega), run62, q, es, hkr, lr, lr']
  by_cases o4 : l[i].op = 4
  · have hm := mul_num na nb
    rw [rest (xs[ka] * xs[kb]) (by simp [valF, o4, ra, rb])]
    cases q : numB (xs[ka] * xs[kb])
    · simp -implicitDefEqProofs [sSta, stS, hSta, own1, o4, w64 (x := xs[ka] * xs[kb]) (by omega), run62, q, ef]
    · simp -implicitDefEqProofs [sSta, stS, hSta, own1, o4, w64 (x := xs[ka] * xs[kb]) (by omega), run62, q, es, hkr, lr, lr']
  have o5 : l[i].op = 5 := by omega
  by_cases z : xs[ka] < xs[kb]
  · rw [rest 1 (by simp [valF, o5, ra, rb, z])]
    simp -implicitDefEqProofs [sSta, stS, hSta, own1, o5, z, run62, show numB 1 = true from rfl, es, hkr, lr, lr']
  · rw [rest 0 (by simp [valF, o5, ra, rb, z])]
    simp -implicitDefEqProofs [sSta, stS, hSta, own1, o5, z, run62, show numB 0 = true from rfl, es, hkr, lr, lr']
end Go.Proofs.Ytbdidcfjaohglaa.VM
