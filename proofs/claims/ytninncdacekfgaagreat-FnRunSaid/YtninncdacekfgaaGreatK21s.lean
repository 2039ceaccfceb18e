/- Ready, Halted: reckoned; their laws. -/
import Derived.Test.YtninncdacekfgaaGreatK17s
import Derived.Test.YtninncdacekfgaaGreatK18s
import Derived.Test.YtninncdacekfgaaGreatK20s
set_option linter.unusedSimpArgs false
set_option linter.unusedVariables false
set_option maxRecDepth 100000
set_option maxHeartbeats 40000000
namespace Go.Proofs.YtninncdacekfgaaGreat.VM
open Go Go.Proofs
def insAtN (s : Sy) (m : Nat) : Ins := insAt (progOf s m) (stOf s m).at_
def upN (s : Sy) (m : Nat) : Nat := if (insAtN s m).op = 7 ∧ (insAtN s m).n = 9 then s.progs.length - 1 else 0
def rdy (s : Sy) (m : Nat) : Nat → List Int
 | 0 => []
 | k + 1 => if (comeF s m k).2 = 0 then rdy s m k ++ [(k : Int)] else rdy s m k
theorem rdy_len (s : Sy) (m : Nat) : ∀ k, (rdy s m k).length ≤ k
 | 0 => Nat.le_refl _
 | k + 1 => by
  have := rdy_len s m k
  unfold rdy
  split
  ·rw [List.length_append, List.length_singleton]; omega
  ·omega
def readyF (s : Sy) (p : Int) : List Int := if inB p 0 ((s.progs.length : Int) - 1) = false then [] else rdy s p.toNat (upN s p.toNat + 1)
end Go.Proofs.YtninncdacekfgaaGreat.VM
namespace Go.Proofs.YtninncdacekfgaaGreat.VM
open Go Go.Proofs
theorem stepF_code (s : Sy) (p q : Int) : (stepF s p q).2 = (comeF s p q).2 := by
 unfold stepF
 split
 ·rename_i h; exact h.symm
 ·rfl
theorem rdy_nil {s : Sy} {m : Nat} (h : ∀ q : Int, (comeF s m q).2 ≠ 0) : ∀ k, rdy s m k = []
 | 0 => rfl
 | k + 1 => by rw [rdy, if_neg (h k), rdy_nil h k]
def H_sr (s : Sy) (m i : Nat) : St := ⟨[(1, .c (.v (.int .i64 m))), (2, .ptr 192 [] 0), (5, .c (.sl 832 [] 0 (rdy s m i).length)), (8, .c (.v (.int .i64 ((upN s m : Int) + 1)))), (9, .c (.v (.int .i64 i)))], sysO s ++ [(192, sysX s), (832, ⟨.own, 3, ints (rdy s m i)⟩)]⟩
theorem run_l5Ready {j : Nat} (hj : big ≤ j) (s : Sy) (R : Right s) (p : Int) : M.run (j + 6) 165 [.agg (syR s), .c (.v (.int .i64 p))] = some ([.c (.s 3 (readyF s p).length (ints (readyF s p)))], [.agg (syR s), .c (.v (.int .i64 p))]) := by
 have h := R.small
 have n4 := R.n4
 have n1 := R.n1
 have w := w64 (x := (s.progs.length : Int) - 1) (by omega)
 rw [m_run (fn := Tryz.f165) (i0 := 0) rfl Tryz.func165 rfl rfl (by simp [syR])]
 unfold readyF
 cases hq : inB p 0 ((s.progs.length : Int) - 1)
 ·simp -implicitDefEqProofs [syR, own1, run61, w, hq]
 obtain ⟨m, rfl, hm⟩ := inB_nat hq
 have h2 : m < s.states.length := by rw [R.st]; exact hm
 have P := R.pr hm
 have hst : stOf s m = s.states[m] := by unfold stOf; rw [List.getElem?_eq_getElem h2]; rfl
 have hpg : progOf s m = s.progs[m] := by unfold progOf; rw [List.getElem?_eq_getElem hm]; rfl
 rw [hst, hpg] at P
 rw [if_neg (by simp), Int.toNat_natCast]
 have st3 := stT_3 h2
 have st3g := gq st3
 by_cases hc : s.states[m].code = 0
 rotate_left
 ·have : ∀ q : Int, (comeF s m q).2 ≠ 0 := by
   intro q
   unfold comeF
   rw [if_neg (by rw [hq]; simp), Int.toNat_natCast]
   unfold comeN
   rw [hst, if_pos hc]
   simp
  rw [rdy_nil this]
  simp -implicitDefEqProofs [syR, own1, run61, w, hq, hm, h2, st3, st3g, hc, show m * 4 + 3 < s.states.length * 4 by omega]
 have r1 := roundN (j := j + 4) P.pr4 P.rok
 have hw : wantE s m = nextE (insAt s.progs[m] s.states[m].at_) s.states[m].regs := by unfold wantE; rw [hst, hpg]
 rw [← hw] at r1
 have hin : insAtN s m = insAt s.progs[m] s.states[m].at_ := by unfold insAtN; rw [hst, hpg]
 have hU : ((wantE s m).kind = 3 ∧ (wantE s m).peer = 9 ∧ upN s m = s.progs.length - 1) ∨ ((wantE s m).kind = 3 ∧ ¬ (wantE s m).peer = 9 ∧ upN s m = 0) ∨ (¬ (wantE s m).kind = 3 ∧ True ∧ upN s m = 0) := by
  unfold upN
  rw [hin]
  rcases want_kind (insAt s.progs[m] s.states[m].at_) s.states[m].regs with ⟨a, b⟩ | ⟨a, b⟩ | ⟨a, b⟩
  ·rw [← hw] at b
   rw [b]
   exact .inr (.inr ⟨by simp, trivial, if_neg (fun h => by rw [a] at h; exact absurd h.1 (by decide))⟩)
  ·rw [← hw] at b
   rw [b]
   by_cases c : (insAt s.progs[m] s.states[m].at_).n = 9
   ·exact .inl ⟨rfl, c, if_pos ⟨a, c⟩⟩
   ·exact .inr (.inl ⟨rfl, c, if_neg (fun h => c h.2)⟩)
  ·rw [← hw] at a b
   refine .inr (.inr ⟨b, trivial, if_neg (fun h => ?_)⟩)
   rw [hw] at b
   exact b (by unfold nextE; rw [if_neg (by rw [h.1]; decide), if_pos h.1])
 have e3 := run_l4Copy (j := j + 3) (by omega) s h
 have e1 := fun q : Int => run_l5Step hj s R m q
 have hcode := fun q : Int => stepF_code s m q
 have key : ∀ i, i < upN s m + 1 → i ≤ upN s m ∧ i < 4 := by
  intro i hi
  have : upN s m ≤ 3 := by rcases hU with ⟨_, _, h⟩ | ⟨_, _, h⟩ | ⟨_, _, h⟩ <;> omega
  omega
 have hlast : ¬ ((upN s m : Int) + 1 < upN s m + 1) := by omega
 have hu' : ((wantE s m).kind = 3 ∧ (wantE s m).peer = 9) → (upN s m : Int) + 1 = (s.progs.length : Int) := by
  rintro ⟨a, b⟩
  rcases hU with ⟨_, _, h⟩ | ⟨_, h, _⟩ | ⟨h, _, _⟩
  ·omega
  ·exact absurd b h
  ·exact absurd a h
 have w1 : ∀ l : List (List Ins), (l.map (sIns 105)).take l.length = l.map (sIns 105) := fun l => List.take_of_length_le (by simp)
 have w3 : ∀ l : List (List Itm), (l.map (sItem 99)).take l.length = l.map (sItem 99) := fun l => List.take_of_length_le (by simp)
 have w4 : ∀ l : List (List Ev), (l.map (sEvent 96)).take l.length = l.map (sEvent 96) := fun l => List.take_of_length_le (by simp)
 have sm : m * 4 + 4 ≤ s.states.length * 4 := by omega
 generalize wantE s m = e at *
 obtain ⟨ek, ep, ev⟩ := e
 simp only [syR, syS, tEv, tSta, stR, goneS] at e1 e3 r1 hU hu' ⊢
 try rw [hc] at r1
 have hstep : ∀ i : Nat, ∃ S : Sy, (stepF s m i).1 = S := fun i => ⟨_, rfl⟩
 rcases hU with ⟨o, n9, hu⟩ | ⟨o, n9, hu⟩ | ⟨o, n9, hu⟩
 ·simp -implicitDefEqProofs [own1, run61, w, hq, hm, h2, rIns_at hm, rIns, tSta, stR, tIns, st3, st3g, hc, stT_1 h2, stT_2 h2, r1, o, n9, sm, show m * 4 + 3 < s.states.length * 4 by omega]
  rw [loop_then (H_sr s m) (upN s m + 1) (by simp -implicitDefEqProofs [H_sr, sysO, sysX, hint1, rdy, hu' ⟨o, n9⟩]) (by have := (key (upN s m) (by omega)).2; simp [big] at hj; omega) (fun i hi => by
   obtain ⟨hi', hi4⟩ := key i hi
   have e2 := e1 i
   rw [hcode i] at e2
   generalize (stepF s m i).1 = S at *
   have hrl := rdy_len s m i
   have lm : (rdy s m i).length + 1 ≤ most := by unfold most; omega
   have tk : (ints (rdy s m i)).take (rdy s m i).length = ints (rdy s m i) := List.take_of_length_le (by simp)
   by_cases hc : (comeF s m i).2 = 0
   ·simp -implicitDefEqProofs [H_sr, sysO, sysX, hint1, show (i : Int) < upN s m + 1 by omega, own1, e2, e3, hc, rdy, ints_append, show ints [(i : Int)] = [.v (.int .i64 i)] from rfl, tk, lm, w1, w3, w4, w64 (x := (i : Int) + 1) (by omega), -List.map_take]
   ·simp -implicitDefEqProofs [H_sr, sysO, sysX, hint1, show (i : Int) < upN s m + 1 by omega, own1, e2, e3, hc, rdy, w1, w3, w4, w64 (x := (i : Int) + 1) (by omega), -List.map_take])]
  simp -implicitDefEqProofs [H_sr, sysO, sysX, hlast]
 ·simp -implicitDefEqProofs [own1, run61, w, hq, hm, h2, rIns_at hm, rIns, tSta, stR, tIns, st3, st3g, hc, stT_1 h2, stT_2 h2, r1, o, n9, sm, show m * 4 + 3 < s.states.length * 4 by omega]
  rw [loop_then (H_sr s m) (upN s m + 1) (by simp -implicitDefEqProofs [H_sr, sysO, sysX, hint1, rdy, hu]) (by have := (key (upN s m) (by omega)).2; simp [big] at hj; omega) (fun i hi => by
   obtain ⟨hi', hi4⟩ := key i hi
   have e2 := e1 i
   rw [hcode i] at e2
   generalize (stepF s m i).1 = S at *
   have hrl := rdy_len s m i
   have lm : (rdy s m i).length + 1 ≤ most := by unfold most; omega
   have tk : (ints (rdy s m i)).take (rdy s m i).length = ints (rdy s m i) := List.take_of_length_le (by simp)
   by_cases hc : (comeF s m i).2 = 0
   ·simp -implicitDefEqProofs [H_sr, sysO, sysX, hint1, show (i : Int) < upN s m + 1 by omega, own1, e2, e3, hc, rdy, ints_append, show ints [(i : Int)] = [.v (.int .i64 i)] from rfl, tk, lm, w1, w3, w4, w64 (x := (i : Int) + 1) (by omega), -List.map_take]
   ·simp -implicitDefEqProofs [H_sr, sysO, sysX, hint1, show (i : Int) < upN s m + 1 by omega, own1, e2, e3, hc, rdy, w1, w3, w4, w64 (x := (i : Int) + 1) (by omega), -List.map_take])]
  simp -implicitDefEqProofs [H_sr, sysO, sysX, hlast]
 ·simp -implicitDefEqProofs [own1, run61, w, hq, hm, h2, rIns_at hm, rIns, tSta, stR, tIns, st3, st3g, hc, stT_1 h2, stT_2 h2, r1, o, n9, sm, show m * 4 + 3 < s.states.length * 4 by omega]
  rw [loop_then (H_sr s m) (upN s m + 1) (by simp -implicitDefEqProofs [H_sr, sysO, sysX, hint1, rdy, hu]) (by have := (key (upN s m) (by omega)).2; simp [big] at hj; omega) (fun i hi => by
   obtain ⟨hi', hi4⟩ := key i hi
   have e2 := e1 i
   rw [hcode i] at e2
   generalize (stepF s m i).1 = S at *
   have hrl := rdy_len s m i
   have lm : (rdy s m i).length + 1 ≤ most := by unfold most; omega
   have tk : (ints (rdy s m i)).take (rdy s m i).length = ints (rdy s m i) := List.take_of_length_le (by simp)
   by_cases hc : (comeF s m i).2 = 0
   ·simp -implicitDefEqProofs [H_sr, sysO, sysX, hint1, show (i : Int) < upN s m + 1 by omega, own1, e2, e3, hc, rdy, ints_append, show ints [(i : Int)] = [.v (.int .i64 i)] from rfl, tk, lm, w1, w3, w4, w64 (x := (i : Int) + 1) (by omega), -List.map_take]
   ·simp -implicitDefEqProofs [H_sr, sysO, sysX, hint1, show (i : Int) < upN s m + 1 by omega, own1, e2, e3, hc, rdy, w1, w3, w4, w64 (x := (i : Int) + 1) (by omega), -List.map_take])]
  simp -implicitDefEqProofs [H_sr, sysO, sysX, hlast]
end Go.Proofs.YtninncdacekfgaaGreat.VM
namespace Go.Proofs.YtninncdacekfgaaGreat.VM
open Go Go.Proofs
noncomputable def readyI (s : Sy) (p : Int) : List Int := if sysB s = true then readyF s p else []
theorem readyF_len {s : Sy} (R : Right s) (p : Int) : (readyF s p).length ≤ 4 := by
 unfold readyF
 split
 ·simp
 ·have h := rdy_len s p.toNat (upN s p.toNat + 1)
  have n4 := R.n4
  have n1 := R.n1
  have : upN s p.toNat ≤ 3 := by
   unfold upN
   split <;> omega
  omega
theorem run_specReady {j : Nat} (hj : big ≤ j) (s : Sy) (h : Small s) (p : Int) : M.run (j + 8) 123 [.agg (syR s), .c (.v (.int .i64 p))] = some ([.c (.s 3 (readyI s p).length (ints (readyI s p)))], [.agg (syR s), .c (.v (.int .i64 p))]) := by
 have e1 := run_specSys hj s h
 unfold readyI
 rw [m_run (fn := Tryz.f123) (i0 := 0) rfl Tryz.func123 rfl rfl (by simp [syR])]
 cases hq : sysB s
 ·rw [hq] at e1
  simp only [syR] at e1 ⊢
  simp -implicitDefEqProofs [own1, e1]
 ·have R := right_iff.1 hq
  have e2 := run_l5Ready (j := j + 1) (by omega) s R p
  have hl := readyF_len R p
  rw [hq] at e1
  rw [if_pos rfl]
  generalize readyF s p = D at *
  have tk : (ints D).take D.length = ints D := List.take_of_length_le (by simp)
  simp only [syR] at e1 e2 ⊢
  simp -implicitDefEqProofs [own1, e1, e2, tk]
end Go.Proofs.YtninncdacekfgaaGreat.VM
