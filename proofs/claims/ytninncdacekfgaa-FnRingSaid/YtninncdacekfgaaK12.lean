/- SysOk of the specification: reckoned; its plain law. -/
import Derived.Test.YtninncdacekfgaaK11
import Derived.Test.YtninncdacekfgaaK8
/- Systems that are right: the specification's, reckoned. -/
namespace Go.Proofs.Ytninncdacekfgaa.VM
open Go Go.Proofs
set_option linter.unusedSimpArgs false
set_option linter.unusedVariables false
set_option maxRecDepth 100000
set_option maxHeartbeats 40000000
def peerLtB (s : Sy) (p i : Nat) : Bool := decide ((evAt (rowH s.hist p) i).peer < s.progs.length)
def sProcB (s : Sy) (p : Nat) : Bool := progB ((s.progs[p]?).getD []) s.progs.length && (replayB ((s.progs[p]?).getD []) (rowH s.hist p) && (sameB (replayS ((s.progs[p]?).getD []) (rowH s.hist p)) ((s.states[p]?).getD ⟨0, [], [], 0⟩) && allTo (peerLtB s p) (rowH s.hist p).length))
def tookL (s : Sy) (a b : Nat) : List Int := valsE (rowH s.hist b) 3 a
def sentL (s : Sy) (a b : Nat) : List Int := valsE (rowH s.hist a) 2 b
def preB (s : Sy) (a b i : Nat) : Bool := decide ((tookL s a b)[i]? = (sentL s a b)[i]?)
def sFitB (s : Sy) (a b : Nat) : Bool := l4wayB (wayR s a b) (sentL s a b) (tookL s a b).length && allTo (preB s a b) (tookL s a b).length
noncomputable def sSysB (s : Sy) : Bool := shapeB s && (allTo (sProcB s) s.progs.length && (allTo (fun a => allTo (sFitB s a) s.progs.length) s.progs.length && ordrB s.hist))
def H_p1 (s : Sy) (i : Nat) : St := ⟨[(1, .ptr 128 [] 0), (3, .c (.v (.int .i64 s.progs.length))), (4, .c (.v (.int .i64 i)))], sysO s ++ [(128, sysX s)]⟩
def H_p2 (s : Sy) (p i : Nat) : St := ⟨[(1, .ptr 128 [] 0), (3, .c (.v (.int .i64 s.progs.length))), (4, .c (.v (.int .i64 p))), (7, .c (.v (.int .i64 i)))], sysO s ++ [(128, sysX s)]⟩
def H_p3 (s : Sy) (a : Nat) : St := ⟨[(1, .ptr 128 [] 0), (3, .c (.v (.int .i64 s.progs.length))), (8, .c (.v (.int .i64 a)))], sysO s ++ [(128, sysX s)]⟩
def H_p4 (s : Sy) (a b : Nat) : St := ⟨[(1, .ptr 128 [] 0), (3, .c (.v (.int .i64 s.progs.length))), (8, .c (.v (.int .i64 a))), (9, .c (.v (.int .i64 b)))], sysO s ++ [(128, sysX s)]⟩
def H_p5 (s : Sy) (a b : Nat) (V1 V2 : List Int) (i : Nat) : St := ⟨[(1, .ptr 128 [] 0), (3, .c (.v (.int .i64 s.progs.length))), (8, .c (.v (.int .i64 a))), (9, .c (.v (.int .i64 b))), (10, .c (.sl 7616 [] 0 V1.length)), (11, .c (.sl 8064 [] 0 V2.length)), (12, .c (.v (.int .i64 i)))], sysO s ++ [(128, sysX s), (7616, ⟨.own, 3, ints V1⟩), (8064, ⟨.own, 3, ints V2⟩)]⟩
end Go.Proofs.Ytninncdacekfgaa.VM

/- The plain law of SysOk: what the specification asks is what the program asks. -/
namespace Go.Proofs.Ytninncdacekfgaa.VM
open Go Go.Proofs
set_option linter.unusedSimpArgs false
set_option linter.unusedVariables false
set_option maxRecDepth 100000
set_option maxHeartbeats 4000000
theorem peer_of {x : Ins} {regs : List Int} {e : Ev} {m n : Int} (hi : insB x m n = true) (hn : 1 ≤ n ∧ n ≤ 4) (hc : comesB e (nextE x regs) = true) : decide (e.peer < n) = peerB e n := by
 simp only [insB, Bool.and_eq_true] at hi
 have h5 := hi.2
 unfold peerB
 by_cases o7 : x.op = 7
 ·have hw : nextE x regs = ⟨3, x.n, 0⟩ := by simp [nextE, o7]
  rw [hw] at hc
  by_cases k3 : e.kind = 3
  ·rw [comes_take rfl k3] at hc
   simp [lastB, hasB, formL, o7, inB] at h5
   simp [inB] at hc
   have h0 : 0 ≤ e.peer := by omega
   rw [Bool.eq_iff_iff]
   simp [k3, inB]
   omega
  ·rw [comes_not (by simp [k3])] at hc
   simp [evB] at hc
   exact absurd hc.1 k3
 have hk3 : ¬ ((nextE x regs).kind = 3 ∧ e.kind = 3) := by
  unfold nextE
  (repeat' split) <;> simp_all
 rw [comes_not hk3] at hc
 by_cases o6 : x.op = 6
 ·simp [lastB, hasB, formL, o6, inB] at h5
  simp [evB, nextE, o6] at hc
  rw [Bool.eq_iff_iff]
  simp [hc.1, hc.2.1, inB]
  omega
 by_cases o8 : x.op = 8
 ·simp [evB, nextE, o8] at hc
  simp [hc.1, hc.2.1]
  omega
 ·simp [evB, nextE, o6, o7, o8] at hc
  simp [hc.1, hc.2.1]
  omega
theorem peers_of {l : List Ins} {es : List Ev} {n : Int} (hn : 1 ≤ n ∧ n ≤ 4) (hp : progB l n = true) (hr : replayB l es = true) : allTo (fun i => decide ((evAt es i).peer < n)) es.length = peersB es n := by
 unfold replayB repB at hr
 simp only [Bool.and_eq_true] at hr
 obtain ⟨h4, _, hr⟩ := hr
 have hcan := allTo_of hr
 have key : ∀ i (hi : i < es.length), decide (es[i].peer < n) = peerB es[i] n := fun i hi => by
  have R := st_rok (n := i) h4 fun q hq => hcan q (by omega)
  obtain ⟨q, hq, e1, e2⟩ := insAt_of R
  have hc := hcan i hi
  simp only [canB, Bool.and_eq_true] at hc
  have hc2 := hc.2
  rw [e2, evAt_of hi] at hc2
  simp only [progB, Bool.and_eq_true] at hp
  exact peer_of (List.all_eq_true.1 hp.2 l[q] (List.getElem_mem _)) hn hc2
 rw [Bool.eq_iff_iff]
 unfold peersB
 constructor
 ·intro h
  have h := allTo_of h
  refine List.all_eq_true.2 fun e he => ?_
  obtain ⟨i, hi, rfl⟩ := List.getElem_of_mem he
  rw [← key i hi]
  have := h i hi
  simp only [evAt_of hi] at this
  exact this
 ·intro h
  refine allTo_to fun i hi => ?_
  simp only [evAt_of hi]
  rw [key i hi]
  exact List.all_eq_true.1 h _ (List.getElem_mem _)
theorem sproc_eq {s : Sy} (hn : 1 ≤ (s.progs.length : Int) ∧ (s.progs.length : Int) ≤ 4) (p : Nat) : sProcB s p = procB s p := by
 unfold sProcB procB
 cases q1 : progB ((s.progs[p]?).getD []) s.progs.length
 ·rfl
 cases q2 : replayB ((s.progs[p]?).getD []) (rowH s.hist p)
 ·simp
 rw [show allTo (peerLtB s p) (rowH s.hist p).length = peersB (rowH s.hist p) s.progs.length from peers_of hn q1 q2]
 simp [Bool.and_comm]
theorem sfit_eq {s : Sy} (a b : Nat) : sFitB s a b = (wayB (wayR s a b) && fitsB s a b) := by
 unfold sFitB l4wayB fitsB preB
 change ((_ && _) && allTo _ (tookL s a b).length) = (_ && decide (tookL s a b ++ _ = sentL s a b))
 generalize tookL s a b = V1
 generalize sentL s a b = V2
 generalize wayR s a b = w
 cases wayB w
 ·rfl
 rw [Bool.eq_iff_iff]
 simp only [Bool.true_and, Bool.and_eq_true, decide_eq_true_eq]
 constructor
 ·rintro ⟨⟨h1, h2⟩, h3⟩
  have h3 := allTo_of h3
  rw [← h2]
  have : V1 = V2.take V1.length := by
   apply List.ext_getElem?
   intro i
   rw [List.getElem?_take]
   split
   ·rename_i hi
    simpa using h3 i hi
   ·rename_i hi
    exact List.getElem?_eq_none (by omega)
  rw [this, List.length_take, Nat.min_eq_left h1]
  exact List.take_append_drop _ _
 ·intro h
  subst h
  refine ⟨⟨by simp, by simp⟩, allTo_to fun i hi => ?_⟩
  simp [List.getElem?_append_left hi]
theorem all_ways {s : Sy} (hw : s.ways.length = s.progs.length * s.progs.length) : s.ways.all wayB = true ↔ ∀ a b, a < s.progs.length → b < s.progs.length → wayB (wayR s a b) = true := by
 have at_ : ∀ i (hi : i < s.ways.length), (s.ways[i]?).getD [] = s.ways[i] := fun i hi => by rw [List.getElem?_eq_getElem hi]; rfl
 constructor
 ·intro h a b ha hb
  unfold wayR
  have hi := idx_lt ha hb hw
  rw [at_ _ hi]
  exact List.all_eq_true.1 h _ (List.getElem_mem _)
 ·intro h
  refine List.all_eq_true.2 fun w hw' => ?_
  obtain ⟨i, hi, rfl⟩ := List.getElem_of_mem hw'
  have hn : 0 < s.progs.length := by
   rcases Nat.eq_zero_or_pos s.progs.length with h0 | h0
   ·rw [h0] at hw; omega
   ·exact h0
  have h1 : i / s.progs.length < s.progs.length := by
   rw [Nat.div_lt_iff_lt_mul hn]
   omega
  have := h (i / s.progs.length) (i % s.progs.length) h1 (Nat.mod_lt _ hn)
  unfold wayR at this
  rw [Nat.div_add_mod' i s.progs.length, at_ _ hi] at this
  exact this
theorem sSysB_eq (s : Sy) : sSysB s = sysB s := by
 unfold sSysB sysB
 cases hs : shapeB s
 ·rfl
 have hs' := hs
 unfold shapeB at hs'
 simp only [Bool.and_eq_true, decide_eq_true_eq] at hs'
 have hn := inB_le hs'.1
 have hw := hs'.2.2.2
 rw [show sProcB s = procB s from funext fun p => sproc_eq hn p]
 cases allTo (procB s) s.progs.length
 ·simp
 cases ordrB s.hist
 ·simp
 simp only [Bool.true_and, Bool.and_true]
 rw [Bool.eq_iff_iff, Bool.and_eq_true, all_ways hw]
 constructor
 ·intro h
  have h := fun a ha => allTo_of (allTo_of h a ha)
  exact ⟨fun a b ha hb => by have := h a ha b hb; rw [sfit_eq, Bool.and_eq_true] at this; exact this.1, allTo_to fun a ha => allTo_to fun b hb => by have := h a ha b hb; rw [sfit_eq, Bool.and_eq_true] at this; exact this.2⟩
 ·rintro ⟨h1, h2⟩
  refine allTo_to fun a ha => allTo_to fun b hb => ?_
  rw [sfit_eq, h1 a b ha hb, allTo_of (allTo_of h2 a ha) b hb]
  rfl
end Go.Proofs.Ytninncdacekfgaa.VM
