/- Ready, Halted: reckoned; their laws. -/
import Derived.Test.YtninncdacekfgaaK17
import Derived.Test.YtninncdacekfgaaK18
import Derived.Test.YtninncdacekfgaaK20
/- What is ready: the program's, reckoned. -/
namespace Go.Proofs.Ytninncdacekfgaa.VM
open Go Go.Proofs
set_option linter.unusedSimpArgs false
set_option linter.unusedVariables false
set_option maxRecDepth 100000
set_option maxHeartbeats 40000000
def insAtN (s : Sy) (m : Nat) : Ins := insAt (progOf s m) (stOf s m).at_
def upN (s : Sy) (m : Nat) : Nat := if (insAtN s m).op = 7 ∧ (insAtN s m).n = 9 then s.progs.length - 1 else 0
def rdy (s : Sy) (m : Nat) : Nat → List Int
 | 0 => []
 | k + 1 => if (comeF s m k).2 = 0 then rdy s m k ++ [(k : Int)] else rdy s m k
theorem rdy_len (s : Sy) (m : Nat) : ∀ k, (rdy s m k).length ≤ k
 | 0 => Nat.le_refl _
 | k + 1 => by
  have := rdy_len s m k
  unfold rdy
  split
  ·rw [List.length_append, List.length_singleton]; omega
  ·omega
def readyF (s : Sy) (p : Int) : List Int := if inB p 0 ((s.progs.length : Int) - 1) = false then [] else rdy s p.toNat (upN s p.toNat + 1)
def H_rd (s : Sy) (m i : Nat) : St := ⟨[(1, .c (.v (.int .i64 m))), (2, .ptr 192 [] 0), (5, .c (.sl 768 [] 0 (rdy s m i).length)), (6, .c (.v (.int .i64 (upN s m)))), (8, .c (.v (.int .i64 i)))], sysO s ++ [(192, sysX s), (768, ⟨.own, 3, ints (rdy s m i)⟩)]⟩
theorem run_ready {j : Nat} (hj : big ≤ j) (s : Sy) (R : Right s) (p : Int) : M.run (j + 7) 45 [.agg (syR s), .c (.v (.int .i64 p))] = some ([.c (.s 3 (readyF s p).length (ints (readyF s p)))], [.agg (syR s), .c (.v (.int .i64 p))]) := by
 have h := R.small
 have n4 := R.n4
 have n1 := R.n1
 have w := w64 (x := (s.progs.length : Int) - 1) (by omega)
 rw [m_run (fn := Try.f45) (i0 := 0) rfl Try.func45 rfl rfl (by simp [syR])]
 unfold readyF
 cases hq : inB p 0 ((s.progs.length : Int) - 1)
 ·simp -implicitDefEqProofs [syR, own1, run64, w, hq]
 obtain ⟨m, rfl, hm⟩ := inB_nat hq
 have h2 : m < s.states.length := by rw [R.st]; exact hm
 have P := R.pr hm
 have hst : stOf s m = s.states[m] := by unfold stOf; rw [List.getElem?_eq_getElem h2]; rfl
 have hpg : progOf s m = s.progs[m] := by unfold progOf; rw [List.getElem?_eq_getElem hm]; rfl
 rw [hst, hpg] at P
 obtain ⟨i0, hi0, hi1, hi2⟩ := insAt_of P.rok
 have hin : insAtN s m = s.progs[m][i0] := by unfold insAtN; rw [hst, hpg, hi2]
 have t0 := stT_0 h2
 rw [hi1] at t0
 rw [if_neg (by simp), Int.toNat_natCast]
 have e1 : ∀ i : Nat, M.run (j + 6) 77 [.agg (syR s), .c (.v (.int .i64 m)), .c (.v (.int .i64 i))] = some ([.agg (tEv (comeF s m i).1), .c (.v (.int .i64 (comeF s m i).2))], [.agg (syR s), .c (.v (.int .i64 m)), .c (.v (.int .i64 i))]) := fun i => run_coming hj s R m i
 have hU : (s.progs[m][i0].op = 7 ∧ s.progs[m][i0].n = 9 ∧ upN s m = s.progs.length - 1) ∨ (s.progs[m][i0].op = 7 ∧ ¬ s.progs[m][i0].n = 9 ∧ upN s m = 0) ∨ (¬ s.progs[m][i0].op = 7 ∧ True ∧ upN s m = 0) := by
  unfold upN
  rw [hin]
  by_cases a : s.progs[m][i0].op = 7
  ·by_cases b : s.progs[m][i0].n = 9
   ·exact .inl ⟨a, b, if_pos ⟨a, b⟩⟩
   ·exact .inr (.inl ⟨a, b, if_neg (fun h => b h.2)⟩)
  ·exact .inr (.inr ⟨a, trivial, if_neg (fun h => a h.1)⟩)
 simp only [syR, tEv] at e1 ⊢
 have key : ∀ i, i < upN s m + 1 → i ≤ upN s m ∧ i < 4 := by
  intro i hi
  have : upN s m ≤ 3 := by rcases hU with ⟨_, _, h⟩ | ⟨_, _, h⟩ | ⟨_, _, h⟩ <;> omega
  omega
 have hlast : ¬ ((upN s m : Int) + 1 ≤ upN s m) := by omega
 have hu' : (s.progs[m][i0].op = 7 ∧ s.progs[m][i0].n = 9) → (s.progs.length : Int) - 1 = (upN s m : Int) := by
  rintro ⟨a, b⟩
  rcases hU with ⟨_, _, h⟩ | ⟨_, h, _⟩ | ⟨h, _, _⟩
  ·omega
  ·exact absurd b h
  ·exact absurd a h
 rcases hU with ⟨o, n9, hu⟩ | ⟨o, n9, hu⟩ | ⟨o, n9, hu⟩
 ·simp -implicitDefEqProofs [own1, run64, w, hq, hm, h2, rIns_at hm, rIns, t0, gq t0, hi0, o, n9, show m * 4 < s.states.length * 4 by omega, show i0 * 5 + 5 ≤ s.progs[m].length * 5 by omega, tIns]
  rw [loop_then (H_rd s m) (upN s m + 1) (by simp -implicitDefEqProofs [H_rd, sysO, sysX, hint1, rdy, hu' ⟨o, n9⟩]) (by have := (key (upN s m) (by omega)).2; simp [big] at hj; omega) (fun i hi => by
   obtain ⟨hi', hi4⟩ := key i hi
   have e2 := e1 i
   have hrl := rdy_len s m i
   have lm : (rdy s m i).length + 1 ≤ most := by unfold most; omega
   have tk : (ints (rdy s m i)).take (rdy s m i).length = ints (rdy s m i) := List.take_of_length_le (by simp)
   by_cases hc : (comeF s m i).2 = 0
   ·simp -implicitDefEqProofs [H_rd, sysO, sysX, hint1, hi', own1, e2, hc, rdy, ints_append, show ints [(i : Int)] = [.v (.int .i64 i)] from rfl, tk, lm, w64 (x := (i : Int) + 1) (by omega)]
   ·simp -implicitDefEqProofs [H_rd, sysO, sysX, hint1, hi', own1, e2, hc, rdy, w64 (x := (i : Int) + 1) (by omega)])]
  simp -implicitDefEqProofs [H_rd, sysO, sysX, hlast]
 ·simp -implicitDefEqProofs [own1, run64, w, hq, hm, h2, rIns_at hm, rIns, t0, gq t0, hi0, o, n9, show m * 4 < s.states.length * 4 by omega, show i0 * 5 + 5 ≤ s.progs[m].length * 5 by omega, tIns]
  rw [loop_then (H_rd s m) (upN s m + 1) (by simp -implicitDefEqProofs [H_rd, sysO, sysX, hint1, rdy, hu]) (by have := (key (upN s m) (by omega)).2; simp [big] at hj; omega) (fun i hi => by
   obtain ⟨hi', hi4⟩ := key i hi
   have e2 := e1 i
   have hrl := rdy_len s m i
   have lm : (rdy s m i).length + 1 ≤ most := by unfold most; omega
   have tk : (ints (rdy s m i)).take (rdy s m i).length = ints (rdy s m i) := List.take_of_length_le (by simp)
   by_cases hc : (comeF s m i).2 = 0
   ·simp -implicitDefEqProofs [H_rd, sysO, sysX, hint1, hi', own1, e2, hc, rdy, ints_append, show ints [(i : Int)] = [.v (.int .i64 i)] from rfl, tk, lm, w64 (x := (i : Int) + 1) (by omega)]
   ·simp -implicitDefEqProofs [H_rd, sysO, sysX, hint1, hi', own1, e2, hc, rdy, w64 (x := (i : Int) + 1) (by omega)])]
  simp -implicitDefEqProofs [H_rd, sysO, sysX, hlast]
 ·simp -implicitDefEqProofs [own1, run64, w, hq, hm, h2, rIns_at hm, rIns, t0, gq t0, hi0, o, n9, show m * 4 < s.states.length * 4 by omega, show i0 * 5 + 5 ≤ s.progs[m].length * 5 by omega, tIns]
  rw [loop_then (H_rd s m) (upN s m + 1) (by simp -implicitDefEqProofs [H_rd, sysO, sysX, hint1, rdy, hu]) (by have := (key (upN s m) (by omega)).2; simp [big] at hj; omega) (fun i hi => by
   obtain ⟨hi', hi4⟩ := key i hi
   have e2 := e1 i
   have hrl := rdy_len s m i
   have lm : (rdy s m i).length + 1 ≤ most := by unfold most; omega
   have tk : (ints (rdy s m i)).take (rdy s m i).length = ints (rdy s m i) := List.take_of_length_le (by simp)
   by_cases hc : (comeF s m i).2 = 0
   ·simp -implicitDefEqProofs [H_rd, sysO, sysX, hint1, hi', own1, e2, hc, rdy, ints_append, show ints [(i : Int)] = [.v (.int .i64 i)] from rfl, tk, lm, w64 (x := (i : Int) + 1) (by omega)]
   ·simp -implicitDefEqProofs [H_rd, sysO, sysX, hint1, hi', own1, e2, hc, rdy, w64 (x := (i : Int) + 1) (by omega)])]
  simp -implicitDefEqProofs [H_rd, sysO, sysX, hlast]
end Go.Proofs.Ytninncdacekfgaa.VM

/- What is ready: the specification's, reckoned; the laws FnExactReady, FnExactHalted. -/
namespace Go.Proofs.Ytninncdacekfgaa.VM
open Go Go.Proofs
set_option linter.unusedSimpArgs false
set_option linter.unusedVariables false
set_option maxRecDepth 100000
set_option maxHeartbeats 40000000
theorem stepF_code (s : Sy) (p q : Int) : (stepF s p q).2 = (comeF s p q).2 := by
 unfold stepF
 split
 ·rename_i h; exact h.symm
 ·rfl
theorem rdy_nil {s : Sy} {m : Nat} (h : ∀ q : Int, (comeF s m q).2 ≠ 0) : ∀ k, rdy s m k = []
 | 0 => rfl
 | k + 1 => by rw [rdy, if_neg (h k), rdy_nil h k]
def H_sr (s : Sy) (m i : Nat) : St := ⟨[(1, .c (.v (.int .i64 m))), (2, .ptr 192 [] 0), (5, .c (.sl 832 [] 0 (rdy s m i).length)), (8, .c (.v (.int .i64 ((upN s m : Int) + 1)))), (9, .c (.v (.int .i64 i)))], sysO s ++ [(192, sysX s), (832, ⟨.own, 3, ints (rdy s m i)⟩)]⟩
end Go.Proofs.Ytninncdacekfgaa.VM

/- Ready, Halted: reckoned; their laws. -/
namespace Go.Proofs.Ytninncdacekfgaa.VM
open Go Go.Proofs
set_option linter.unusedSimpArgs false
set_option linter.unusedVariables false
set_option maxRecDepth 100000
set_option maxHeartbeats 40000000
noncomputable def readyI (s : Sy) (p : Int) : List Int := if sysB s = true then readyF s p else []
theorem readyF_len {s : Sy} (R : Right s) (p : Int) : (readyF s p).length ≤ 4 := by
 unfold readyF
 split
 ·simp
 ·have h := rdy_len s p.toNat (upN s p.toNat + 1)
  have n4 := R.n4
  have n1 := R.n1
  have : upN s p.toNat ≤ 3 := by
   unfold upN
   split <;> omega
  omega
theorem clipG_eq {e n : Nat} {xs : List T} (hv : allV xs = true) : clipG e [.c (.s e n xs)] = some ([.c (.s e n xs)], [.c .h]) := if_pos ⟨rfl, hv⟩
noncomputable def haltP (s : Sy) (p : Nat) : Bool := decide ((readyF s p).length = 0)
noncomputable def haltF (s : Sy) : Bool := sysB s && allTo (haltP s) s.progs.length
def H_hi (s : Sy) (i : Nat) : St := ⟨[(1, .ptr 128 [] 0), (9, .c (.v (.int .i64 s.progs.length))), (10, .c (.v (.int .i64 i)))], sysO s ++ [(128, sysX s)]⟩
def H_hs (s : Sy) (i : Nat) : St := ⟨[(1, .ptr 128 [] 0), (3, .c (.v (.int .i64 i)))], sysO s ++ [(128, sysX s)]⟩
theorem run_implHalted {j : Nat} (hj : big ≤ j) (s : Sy) (h : Small s) : M.run (j + 11) 17 [.agg (syR s)] = some ([.c (.v (.bool (haltF s)))], [.agg (syR s)]) := by
 have e1 := run_implSysOk hj s h
 have b1 := h.progs
 rw [m_run (fn := Try.f17) (i0 := 0) rfl Try.func17 rfl rfl (by simp [syR])]
 unfold haltF
 cases hq : sysB s
 ·rw [hq] at e1
  simp only [syR] at e1 ⊢
  simp -implicitDefEqProofs [own1, e1]
 have R := right_iff.1 hq
 rw [hq] at e1
 have e2 := fun p : Nat => run_ready (j := j + 3) (by omega) s R p
 simp only [syR] at e1 e2 ⊢
 simp -implicitDefEqProofs [own1, e1]
 obtain ⟨N, hN, hg, hN'⟩ := firstN (haltP s) s.progs.length
 rw [loop_then (H_hi s) N (by simp -implicitDefEqProofs [H_hi, sysO, sysX, hint1]) (by simp [big] at hj; omega) (fun p hp => by
  have h1 : p < s.progs.length := by omega
  have g := hg p hp
  have e3 := e2 p
  unfold haltP at g
  rw [decide_eq_true_eq] at g
  generalize readyF s p = D at *
  obtain rfl := List.eq_nil_of_length_eq_zero g
  simp at e3
  simp -implicitDefEqProofs [H_hi, sysO, sysX, hint1, h1, own1, e3, w64 (x := (p : Int) + 1) (by omega)])]
 rcases hN' with ⟨hN', hall⟩ | ⟨hlt, hbad, hall⟩
 ·rw [hall, hN']
  simp -implicitDefEqProofs [H_hi, sysO, sysX]
 ·rw [hall]
  have e3 := e2 N
  have hl := readyF_len R N
  unfold haltP at hbad
  rw [decide_eq_false_iff_not] at hbad
  generalize readyF s N = D at *
  have tk : (ints D).take D.length = ints D := List.take_of_length_le (by simp)
  simp -implicitDefEqProofs [H_hi, sysO, sysX, hlt, own1, e3, tk, show 0 < D.length by omega, hbad]
end Go.Proofs.Ytninncdacekfgaa.VM
