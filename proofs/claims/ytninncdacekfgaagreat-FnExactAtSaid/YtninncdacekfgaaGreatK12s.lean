/- SysOk of the specification: reckoned; its plain law. -/
import Derived.Test.YtninncdacekfgaaGreatK11s
import Derived.Test.YtninncdacekfgaaGreatK8s
set_option linter.unusedSimpArgs false
set_option linter.unusedVariables false
set_option maxRecDepth 100000
set_option maxHeartbeats 40000000
namespace Go.Proofs.YtninncdacekfgaaGreat.VM
open Go Go.Proofs
def peerLtB (s : Sy) (p i : Nat) : Bool := decide ((evAt (rowH s.hist p) i).peer < s.progs.length)
def sProcB (s : Sy) (p : Nat) : Bool := progB ((s.progs[p]?).getD []) s.progs.length && (replayB ((s.progs[p]?).getD []) (rowH s.hist p) && (sameB (replayS ((s.progs[p]?).getD []) (rowH s.hist p)) ((s.states[p]?).getD ⟨0, [], [], 0⟩) && allTo (peerLtB s p) (rowH s.hist p).length))
def tookL (s : Sy) (a b : Nat) : List Int := valsE (rowH s.hist b) 3 a
def sentL (s : Sy) (a b : Nat) : List Int := valsE (rowH s.hist a) 2 b
def preB (s : Sy) (a b i : Nat) : Bool := decide ((tookL s a b)[i]? = (sentL s a b)[i]?)
def sFitB (s : Sy) (a b : Nat) : Bool := l4wayB (wayR s a b) (sentL s a b) (tookL s a b).length && allTo (preB s a b) (tookL s a b).length
noncomputable def sSysB (s : Sy) : Bool := shapeB s && (allTo (sProcB s) s.progs.length && (allTo (fun a => allTo (sFitB s a) s.progs.length) s.progs.length && ordrB s.hist))
def H_p1 (s : Sy) (i : Nat) : St := ⟨[(1, .ptr 128 [] 0), (3, .c (.v (.int .i64 s.progs.length))), (4, .c (.v (.int .i64 i)))], sysO s ++ [(128, sysX s)]⟩
def H_p2 (s : Sy) (p i : Nat) : St := ⟨[(1, .ptr 128 [] 0), (3, .c (.v (.int .i64 s.progs.length))), (4, .c (.v (.int .i64 p))), (7, .c (.v (.int .i64 i)))], sysO s ++ [(128, sysX s)]⟩
def H_p3 (s : Sy) (a : Nat) : St := ⟨[(1, .ptr 128 [] 0), (3, .c (.v (.int .i64 s.progs.length))), (8, .c (.v (.int .i64 a)))], sysO s ++ [(128, sysX s)]⟩
def H_p4 (s : Sy) (a b : Nat) : St := ⟨[(1, .ptr 128 [] 0), (3, .c (.v (.int .i64 s.progs.length))), (8, .c (.v (.int .i64 a))), (9, .c (.v (.int .i64 b)))], sysO s ++ [(128, sysX s)]⟩
def H_p5 (s : Sy) (a b : Nat) (V1 V2 : List Int) (i : Nat) : St := ⟨[(1, .ptr 128 [] 0), (3, .c (.v (.int .i64 s.progs.length))), (8, .c (.v (.int .i64 a))), (9, .c (.v (.int .i64 b))), (10, .c (.sl 7616 [] 0 V1.length)), (11, .c (.sl 8064 [] 0 V2.length)), (12, .c (.v (.int .i64 i)))], sysO s ++ [(128, sysX s), (7616, ⟨.own, 3, ints V1⟩), (8064, ⟨.own, 3, ints V2⟩)]⟩
theorem run_specSysOk {j : Nat} (hj : big ≤ j) (s : Sy) (h : Small s) (hpi : shapeB s = true → (∀ p, p < s.progs.length → sProcB s p = true) → PeersIn s.hist) : M.run (j + 7) 33 [.agg (syR s)] = some ([.c (.v (.bool (sSysB s)))], [.agg (syR s)]) := by
 have b1 := h.progs
 have b2 := h.states
 have b3 := h.ways
 have b4 := h.hist
 have e0 := run61 (j := j + 5) s.progs.length 1 4
 have wn := mul_le20 b1 b1
 have w1 := w64 (x := (s.progs.length : Int) * (s.progs.length : Int)) (by omega)
 have hcast : ((s.progs.length * s.progs.length : Nat) : Int) = (s.progs.length : Int) * s.progs.length := by simp
 unfold sSysB shapeB
 rw [m_run (fn := Tryz.f33) (i0 := 0) rfl Tryz.func33 rfl rfl (by simp [syR])]
 cases c1 : inB s.progs.length 1 4
 ·rw [c1] at e0
  simp -implicitDefEqProofs [syR, own1, e0]
 rw [c1] at e0
 have hn4 := inB_le c1
 by_cases c2 : s.states.length = s.progs.length
 rotate_left
 ·simp -implicitDefEqProofs [syR, own1, e0, c2, show ¬ (s.states.length : Int) = s.progs.length by omega]
 have k2 : (s.states.length : Int) = s.progs.length := by omega
 by_cases c3 : s.hist.length = s.progs.length
 rotate_left
 ·simp -implicitDefEqProofs [syR, own1, e0, k2, c3, show ¬ (s.hist.length : Int) = s.progs.length by omega]
 have k3 : (s.hist.length : Int) = s.progs.length := by omega
 by_cases c4 : s.ways.length = s.progs.length * s.progs.length
 rotate_left
 ·simp -implicitDefEqProofs [syR, own1, e0, k2, k3, c4, w1, show ¬ (s.ways.length : Int) = (s.progs.length : Int) * s.progs.length by omega]
 have k4 : (s.ways.length : Int) = (s.progs.length : Int) * s.progs.length := by omega
 rw [decide_eq_true c2, decide_eq_true c3, decide_eq_true c4]
 simp -implicitDefEqProofs [syR, own1, e0, k2, k3, k4, w1]
 obtain ⟨N, hN, hg, hN'⟩ := firstN (sProcB s) s.progs.length
 have eqp : ∀ p (h1 : p < s.progs.length) (h2 : p < s.states.length) (h3 : p < s.hist.length), sProcB s p = (progB s.progs[p] s.progs.length && (replayB s.progs[p] s.hist[p] && (sameB (replayS s.progs[p] s.hist[p]) s.states[p] && allTo (peerLtB s p) s.hist[p].length))) := fun p h1 h2 h3 => by
  unfold sProcB rowH
  rw [List.getElem?_eq_getElem h1, List.getElem?_eq_getElem h2, List.getElem?_eq_getElem h3]
  rfl
 rw [loop_then (H_p1 s) N (by simp -implicitDefEqProofs [H_p1, sysO, sysX, hint1]) (by simp [big] at hj; omega) (fun p hp => by
  have h1 : p < s.progs.length := by omega
  have h2 : p < s.states.length := by omega
  have h3 : p < s.hist.length := by omega
  have hb := hg p hp
  rw [eqp p h1 h2 h3] at hb
  simp only [Bool.and_eq_true] at hb
  obtain ⟨q1, q2, q3, q4⟩ := hb
  have e1 := run49 (j := j + 2) (by omega) s.progs[p] s.progs.length (h.prog h1)
  have e3 := run_specReplay hj s.progs[p] s.hist[p] (h.prog h1) (h.his h3)
  have hl := replayS_len s.progs[p] s.hist[p]
  have e4 := run_l4SameState (j := j + 5) (by omega) (replayS s.progs[p] s.hist[p]) s.states[p] hl.1 hl.2
  rw [q1] at e1
  rw [q2] at e3
  rw [q3] at e4
  generalize replayS s.progs[p] s.hist[p] = D at *
  simp only [tSta, stR, sSta, stS] at e3 e4
  have q4 := allTo_of q4
  simp -implicitDefEqProofs [H_p1, sysO, sysX, own1, e1, e3, e4, h1, h2, h3, rIns_at h1, rIns, rEvent_at h3, rEvent, tSta, stR, stT_1 h2, stT_2 h2, show p * 4 + 4 ≤ s.states.length * 4 by omega]
  rw [loop_then (H_p2 s p) s.hist[p].length (by simp -implicitDefEqProofs [H_p2, sysO, sysX, hint1]) (by have := h.his h3; simp [big] at hj; omega) (fun i hi => by
   have g := q4 i hi
   have hh := h.his h3
   unfold peerLtB at g
   rw [rowH_of h3, evAt_of hi, decide_eq_true_eq] at g
   simp -implicitDefEqProofs [H_p2, sysO, sysX, hint1, h3, rEvent_at h3, rEvent, hi, evT_1 hi, show i * 3 + 3 ≤ s.hist[p].length * 3 by omega, show ¬ (s.progs.length : Int) ≤ s.hist[p][i].peer by omega, w64 (x := (i : Int) + 1) (by omega)])]
  simp -implicitDefEqProofs [H_p2, sysO, sysX, hint1, h3, rEvent_at h3, rEvent, w64 (x := (p : Int) + 1) (by omega)])]
 rcases hN' with ⟨hN', hall⟩ | ⟨hlt, hbad, hall⟩
 rotate_left
 ·have h1 : N < s.progs.length := by omega
  have h2 : N < s.states.length := by omega
  have h3 : N < s.hist.length := by omega
  rw [hall]
  clear hall
  rw [eqp N h1 h2 h3] at hbad
  have e1 := run49 (j := j + 2) (by omega) s.progs[N] s.progs.length (h.prog h1)
  have e3 := run_specReplay hj s.progs[N] s.hist[N] (h.prog h1) (h.his h3)
  have hl := replayS_len s.progs[N] s.hist[N]
  have e4 := run_l4SameState (j := j + 5) (by omega) (replayS s.progs[N] s.hist[N]) s.states[N] hl.1 hl.2
  generalize replayS s.progs[N] s.hist[N] = D at *
  generalize sameB D s.states[N] = q3 at *
  generalize replayB s.progs[N] s.hist[N] = q2 at *
  generalize progB s.progs[N] s.progs.length = q1 at *
  simp only [tSta, stR, sSta, stS] at e3 e4
  cases q1
  ·simp -implicitDefEqProofs [H_p1, sysO, sysX, own1, e1, h1, rIns_at h1, rIns]
  cases q2
  ·simp -implicitDefEqProofs [H_p1, sysO, sysX, own1, e1, e3, h1, h2, h3, rIns_at h1, rIns, rEvent_at h3, rEvent]
  cases q3
  ·simp -implicitDefEqProofs [H_p1, sysO, sysX, own1, e1, e3, e4, h1, h2, h3, rIns_at h1, rIns, rEvent_at h3, rEvent, tSta, stR, stT_1 h2, stT_2 h2, show N * 4 + 4 ≤ s.states.length * 4 by omega]
  simp only [Bool.true_and] at hbad
  obtain ⟨K, hK, kg, hK'⟩ := firstN (peerLtB s N) s.hist[N].length
  rw [hbad] at hK'
  have hK' := hK'.resolve_left (by simp)
  simp -implicitDefEqProofs [H_p1, sysO, sysX, own1, e1, e3, e4, h1, h2, h3, rIns_at h1, rIns, rEvent_at h3, rEvent, tSta, stR, stT_1 h2, stT_2 h2, show N * 4 + 4 ≤ s.states.length * 4 by omega]
  have hh := h.his h3
  have hk : K < s.hist[N].length := hK'.1
  rw [loop_then (H_p2 s N) K (by simp -implicitDefEqProofs [H_p2, sysO, sysX, hint1]) (by simp [big] at hj; omega) (fun i hi => by
   have hi' : i < s.hist[N].length := by omega
   have g := kg i hi
   unfold peerLtB at g
   rw [rowH_of h3, evAt_of hi', decide_eq_true_eq] at g
   simp -implicitDefEqProofs [H_p2, sysO, sysX, hint1, h3, rEvent_at h3, rEvent, hi', evT_1 hi', show i * 3 + 3 ≤ s.hist[N].length * 3 by omega, show ¬ (s.progs.length : Int) ≤ s.hist[N][i].peer by omega, w64 (x := (i : Int) + 1) (by omega)])]
  have g := hK'.2.1
  unfold peerLtB at g
  rw [rowH_of h3, evAt_of hk, decide_eq_false_iff_not] at g
  simp -implicitDefEqProofs [H_p2, sysO, sysX, hint1, h3, rEvent_at h3, rEvent, hk, evT_1 hk, show K * 3 + 3 ≤ s.hist[N].length * 3 by omega, show (s.progs.length : Int) ≤ s.hist[N][K].peer by omega]
 rw [hall]
 subst hN'
 have hpe := hpi (by unfold shapeB; rw [c1, decide_eq_true c2, decide_eq_true c3, decide_eq_true c4]; rfl) hg
 simp -implicitDefEqProofs [H_p1, sysO, sysX]
 have eqf : ∀ a b (ha3 : a < s.hist.length) (hb3 : b < s.hist.length) (hw : a * s.progs.length + b < s.ways.length), sFitB s a b = (l4wayB s.ways[a * s.progs.length + b] (valsE s.hist[a] 2 b) (valsE s.hist[b] 3 a).length && allTo (fun i => decide ((valsE s.hist[b] 3 a)[i]? = (valsE s.hist[a] 2 b)[i]?)) (valsE s.hist[b] 3 a).length) := fun a b ha3 hb3 hw => by
  unfold sFitB preB tookL sentL rowH wayR
  rw [List.getElem?_eq_getElem ha3, List.getElem?_eq_getElem hb3, List.getElem?_eq_getElem hw]
  rfl
 obtain ⟨A, hA, ag, hA'⟩ := firstN (fun a => allTo (sFitB s a) s.progs.length) s.progs.length
 rw [loop_then (H_p3 s) A (by simp -implicitDefEqProofs [H_p3, sysO, sysX, hint1]) (by simp [big] at hj; omega) (fun a ha => by
  have HA : a < s.progs.length := by omega
  have gg := allTo_of (ag a ha)
  simp -implicitDefEqProofs [H_p3, sysO, sysX, hint1, HA]
  rw [loop_then (H_p4 s a) s.progs.length (by simp -implicitDefEqProofs [H_p4, sysO, sysX, hint1]) (by simp [big] at hj; omega) (fun b hb => by
   have HB : b < s.progs.length := by omega
   have ha3 : a < s.hist.length := by omega
   have hb3 : b < s.hist.length := by omega
   have hw : a * s.progs.length + b < s.ways.length := idx_lt HA HB c4
   have g := gg b hb
   rw [eqf a b ha3 hb3 hw] at g
   have ev1 := run_specValues (j := j + 5) (by omega) s.hist[b] 3 a (h.his hb3)
   have ev2 := run_specValues (j := j + 5) (by omega) s.hist[a] 2 b (h.his ha3)
   have l1 := valsE_le s.hist[b] 3 a
   have l2 := valsE_le s.hist[a] 2 b
   have l3 := h.his hb3
   have l4 := h.his ha3
   have hm := mul_le20 (a := a) (n := s.progs.length) (by omega) b1
   have w2 := w64 (x := (a : Int) * (s.progs.length : Int)) (by omega)
   have w3 := w64 (x := (a : Int) * (s.progs.length : Int) + b) (by omega)
   have ci := cast_idx a s.progs.length b
   generalize valsE s.hist[b] 3 a = V1 at *
   generalize valsE s.hist[a] 2 b = V2 at *
   have ew := run_l4Way (j := j + 3) (by omega) s.ways[a * s.progs.length + b] V2 V1.length (h.way hw) (by omega) (by omega)
   generalize hm' : a * s.progs.length + b = m at *
   rw [← ci] at w3
   simp only [Bool.and_eq_true] at g
   obtain ⟨g1, g2⟩ := g
   rw [g1] at ew
   have g2 := allTo_of g2
   have hle : V1.length ≤ V2.length := by
    unfold l4wayB at g1
    simp only [Bool.and_eq_true, decide_eq_true_eq] at g1
    exact g1.2.1
   simp -implicitDefEqProofs [H_p4, sysO, sysX, hint1, own1, HB, ha3, hb3, hw, rEvent_at ha3, rEvent_at hb3, rEvent, rItem_at hw, rItem, ev1, ev2, ew, w2, w3, ← ci]
   rw [loop_then (H_p5 s a b V1 V2) V1.length (by simp -implicitDefEqProofs [H_p5, sysO, sysX, hint1]) (by simp [big] at hj; omega) (fun i hi => by
    have i1 : i < V1.length := by omega
    have i2 : i < V2.length := by omega
    have g3 := g2 i hi
    rw [decide_eq_true_eq, List.getElem?_eq_getElem i1, List.getElem?_eq_getElem i2, Option.some.injEq] at g3
    simp -implicitDefEqProofs [H_p5, sysO, sysX, hint1, i1, i2, g3, ints_get i1, ints_get i2, w64 (x := (i : Int) + 1) (by omega), show i + 1 ≤ V1.length by omega, show i + 1 ≤ V2.length by omega])]
   simp -implicitDefEqProofs [H_p5, sysO, sysX, hint1, w64 (x := (b : Int) + 1) (by omega)])]
  simp -implicitDefEqProofs [H_p4, sysO, sysX, hint1, w64 (x := (a : Int) + 1) (by omega)])]
 rcases hA' with ⟨hA', hall2⟩ | ⟨HA, hbad, hall2⟩
 ·rw [hall2]
  subst hA'
  have eo := run_l4Order (j := j + 3) (by omega) s b4 h.histT hpe
  simp only [syR] at eo
  simp -implicitDefEqProofs [H_p3, sysO, sysX, own1, eo]
 rw [hall2]
 clear hall2
 simp -implicitDefEqProofs [H_p3, sysO, sysX, HA]
 obtain ⟨B, hB, bg, hB'⟩ := firstN (sFitB s A) s.progs.length
 rw [hbad] at hB'
 have hB' := hB'.resolve_left (by simp)
 have HBB : B < s.progs.length := hB'.1
 rw [loop_then (H_p4 s A) B (by simp -implicitDefEqProofs [H_p4, sysO, sysX, hint1]) (by simp [big] at hj; omega) (fun b hb => by
  have HB : b < s.progs.length := by omega
  have ha3 : A < s.hist.length := by omega
  have hb3 : b < s.hist.length := by omega
  have hw : A * s.progs.length + b < s.ways.length := idx_lt HA HB c4
  have g := bg b hb
  rw [eqf A b ha3 hb3 hw] at g
  have ev1 := run_specValues (j := j + 5) (by omega) s.hist[b] 3 A (h.his hb3)
  have ev2 := run_specValues (j := j + 5) (by omega) s.hist[A] 2 b (h.his ha3)
  have l1 := valsE_le s.hist[b] 3 A
  have l2 := valsE_le s.hist[A] 2 b
  have l3 := h.his hb3
  have l4 := h.his ha3
  have hm := mul_le20 (a := A) (n := s.progs.length) (by omega) b1
  have w2 := w64 (x := (A : Int) * (s.progs.length : Int)) (by omega)
  have w3 := w64 (x := (A : Int) * (s.progs.length : Int) + b) (by omega)
  have ci := cast_idx A s.progs.length b
  generalize valsE s.hist[b] 3 A = V1 at *
  generalize valsE s.hist[A] 2 b = V2 at *
  have ew := run_l4Way (j := j + 3) (by omega) s.ways[A * s.progs.length + b] V2 V1.length (h.way hw) (by omega) (by omega)
  generalize hm' : A * s.progs.length + b = m at *
  rw [← ci] at w3
  simp only [Bool.and_eq_true] at g
  obtain ⟨g1, g2⟩ := g
  rw [g1] at ew
  have g2 := allTo_of g2
  have hle : V1.length ≤ V2.length := by
   unfold l4wayB at g1
   simp only [Bool.and_eq_true, decide_eq_true_eq] at g1
   exact g1.2.1
  simp -implicitDefEqProofs [H_p4, sysO, sysX, hint1, own1, HB, ha3, hb3, hw, rEvent_at ha3, rEvent_at hb3, rEvent, rItem_at hw, rItem, ev1, ev2, ew, w2, w3, ← ci]
  rw [loop_then (H_p5 s A b V1 V2) V1.length (by simp -implicitDefEqProofs [H_p5, sysO, sysX, hint1]) (by simp [big] at hj; omega) (fun i hi => by
   have i1 : i < V1.length := by omega
   have i2 : i < V2.length := by omega
   have g3 := g2 i hi
   rw [decide_eq_true_eq, List.getElem?_eq_getElem i1, List.getElem?_eq_getElem i2, Option.some.injEq] at g3
   simp -implicitDefEqProofs [H_p5, sysO, sysX, hint1, i1, i2, g3, ints_get i1, ints_get i2, w64 (x := (i : Int) + 1) (by omega), show i + 1 ≤ V1.length by omega, show i + 1 ≤ V2.length by omega])]
  simp -implicitDefEqProofs [H_p5, sysO, sysX, hint1, w64 (x := (b : Int) + 1) (by omega)])]
 have HB : B < s.progs.length := by omega
 have ha3 : A < s.hist.length := by omega
 have hb3 : B < s.hist.length := by omega
 have hw : A * s.progs.length + B < s.ways.length := idx_lt HA HB c4
 have g := hB'.2.1
 rw [eqf A B ha3 hb3 hw] at g
 have ev1 := run_specValues (j := j + 5) (by omega) s.hist[B] 3 A (h.his hb3)
 have ev2 := run_specValues (j := j + 5) (by omega) s.hist[A] 2 B (h.his ha3)
 have l1 := valsE_le s.hist[B] 3 A
 have l2 := valsE_le s.hist[A] 2 B
 have l3 := h.his hb3
 have l4 := h.his ha3
 have hm := mul_le20 (a := A) (n := s.progs.length) (by omega) b1
 have w2 := w64 (x := (A : Int) * (s.progs.length : Int)) (by omega)
 have w3 := w64 (x := (A : Int) * (s.progs.length : Int) + B) (by omega)
 have ci := cast_idx A s.progs.length B
 generalize valsE s.hist[B] 3 A = V1 at *
 generalize valsE s.hist[A] 2 B = V2 at *
 have ew := run_l4Way (j := j + 3) (by omega) s.ways[A * s.progs.length + B] V2 V1.length (h.way hw) (by omega) (by omega)
 generalize hm' : A * s.progs.length + B = m at *
 rw [← ci] at w3

 cases g1 : l4wayB s.ways[m] V2 V1.length
 ·rw [g1] at ew
  simp -implicitDefEqProofs [H_p4, sysO, sysX, hint1, own1, HB, ha3, hb3, hw, rEvent_at ha3, rEvent_at hb3, rEvent, rItem_at hw, rItem, ev1, ev2, ew, w2, w3, ← ci]
 rw [g1] at ew g
 simp only [Bool.true_and] at g
 have hle : V1.length ≤ V2.length := by
  unfold l4wayB at g1
  simp only [Bool.and_eq_true, decide_eq_true_eq] at g1
  exact g1.2.1
 obtain ⟨K, hK, kg, hK'⟩ := firstN (fun i => decide (V1[i]? = V2[i]?)) V1.length
 rw [g] at hK'
 have hK' := hK'.resolve_left (by simp)
 simp -implicitDefEqProofs [H_p4, sysO, sysX, hint1, own1, HB, ha3, hb3, hw, rEvent_at ha3, rEvent_at hb3, rEvent, rItem_at hw, rItem, ev1, ev2, ew, w2, w3, ← ci]
 have K1 : K < V1.length := hK'.1
 have K2 : K < V2.length := by omega
 rw [loop_then (H_p5 s A B V1 V2) K (by simp -implicitDefEqProofs [H_p5, sysO, sysX, hint1]) (by simp [big] at hj; omega) (fun i hi => by
  have i1 : i < V1.length := by omega
  have i2 : i < V2.length := by omega
  have g3 := kg i hi
  rw [decide_eq_true_eq, List.getElem?_eq_getElem i1, List.getElem?_eq_getElem i2, Option.some.injEq] at g3
  simp -implicitDefEqProofs [H_p5, sysO, sysX, hint1, i1, i2, g3, ints_get i1, ints_get i2, w64 (x := (i : Int) + 1) (by omega), show i + 1 ≤ V1.length by omega, show i + 1 ≤ V2.length by omega])]
 have g3 := hK'.2.1
 rw [decide_eq_false_iff_not, List.getElem?_eq_getElem K1, List.getElem?_eq_getElem K2, Option.some.injEq] at g3
 simp -implicitDefEqProofs [H_p5, sysO, sysX, hint1, K1, K2, g3, ints_get K1, ints_get K2, show K + 1 ≤ V1.length by omega, show K + 1 ≤ V2.length by omega]
end Go.Proofs.YtninncdacekfgaaGreat.VM
namespace Go.Proofs.YtninncdacekfgaaGreat.VM
open Go Go.Proofs
theorem peer_of {x : Ins} {regs : List Int} {e : Ev} {m n : Int} (hi : insB x m n = true) (hn : 1 ≤ n ∧ n ≤ 4) (hc : comesB e (nextE x regs) = true) : decide (e.peer < n) = peerB e n := by
 simp only [insB, Bool.and_eq_true] at hi
 have h5 := hi.2
 unfold peerB
 by_cases o7 : x.op = 7
 ·have hw : nextE x regs = ⟨3, x.n, 0⟩ := by simp [nextE, o7]
  rw [hw] at hc
  by_cases k3 : e.kind = 3
  ·rw [comes_take rfl k3] at hc
   simp [lastB, hasB, formL, o7, inB] at h5
   simp [inB] at hc
   have h0 : 0 ≤ e.peer := by omega
   rw [Bool.eq_iff_iff]
   simp [k3, inB]
   omega
  ·rw [comes_not (by simp [k3])] at hc
   simp [evB] at hc
   exact absurd hc.1 k3
 have hk3 : ¬ ((nextE x regs).kind = 3 ∧ e.kind = 3) := by
  unfold nextE
  (repeat' split) <;> simp_all
 rw [comes_not hk3] at hc
 by_cases o6 : x.op = 6
 ·simp [lastB, hasB, formL, o6, inB] at h5
  simp [evB, nextE, o6] at hc
  rw [Bool.eq_iff_iff]
  simp [hc.1, hc.2.1, inB]
  omega
 by_cases o8 : x.op = 8
 ·simp [evB, nextE, o8] at hc
  simp [hc.1, hc.2.1]
  omega
 ·simp [evB, nextE, o6, o7, o8] at hc
  simp [hc.1, hc.2.1]
  omega
theorem peers_of {l : List Ins} {es : List Ev} {n : Int} (hn : 1 ≤ n ∧ n ≤ 4) (hp : progB l n = true) (hr : replayB l es = true) : allTo (fun i => decide ((evAt es i).peer < n)) es.length = peersB es n := by
 unfold replayB repB at hr
 simp only [Bool.and_eq_true] at hr
 obtain ⟨h4, _, hr⟩ := hr
 have hcan := allTo_of hr
 have key : ∀ i (hi : i < es.length), decide (es[i].peer < n) = peerB es[i] n := fun i hi => by
  have R := st_rok (n := i) h4 fun q hq => hcan q (by omega)
  obtain ⟨q, hq, e1, e2⟩ := insAt_of R
  have hc := hcan i hi
  simp only [canB, Bool.and_eq_true] at hc
  have hc2 := hc.2
  rw [e2, evAt_of hi] at hc2
  simp only [progB, Bool.and_eq_true] at hp
  exact peer_of (List.all_eq_true.1 hp.2 l[q] (List.getElem_mem _)) hn hc2
 rw [Bool.eq_iff_iff]
 unfold peersB
 constructor
 ·intro h
  have h := allTo_of h
  refine List.all_eq_true.2 fun e he => ?_
  obtain ⟨i, hi, rfl⟩ := List.getElem_of_mem he
  rw [← key i hi]
  have := h i hi
  simp only [evAt_of hi] at this
  exact this
 ·intro h
  refine allTo_to fun i hi => ?_
  simp only [evAt_of hi]
  rw [key i hi]
  exact List.all_eq_true.1 h _ (List.getElem_mem _)
theorem sproc_eq {s : Sy} (hn : 1 ≤ (s.progs.length : Int) ∧ (s.progs.length : Int) ≤ 4) (p : Nat) : sProcB s p = procB s p := by
 unfold sProcB procB
 cases q1 : progB ((s.progs[p]?).getD []) s.progs.length
 ·rfl
 cases q2 : replayB ((s.progs[p]?).getD []) (rowH s.hist p)
 ·simp
 rw [show allTo (peerLtB s p) (rowH s.hist p).length = peersB (rowH s.hist p) s.progs.length from peers_of hn q1 q2]
 simp [Bool.and_comm]
theorem sfit_eq {s : Sy} (a b : Nat) : sFitB s a b = (wayB (wayR s a b) && fitsB s a b) := by
 unfold sFitB l4wayB fitsB preB
 change ((_ && _) && allTo _ (tookL s a b).length) = (_ && decide (tookL s a b ++ _ = sentL s a b))
 generalize tookL s a b = V1
 generalize sentL s a b = V2
 generalize wayR s a b = w
 cases wayB w
 ·rfl
 rw [Bool.eq_iff_iff]
 simp only [Bool.true_and, Bool.and_eq_true, decide_eq_true_eq]
 constructor
 ·rintro ⟨⟨h1, h2⟩, h3⟩
  have h3 := allTo_of h3
  rw [← h2]
  have : V1 = V2.take V1.length := by
   apply List.ext_getElem?
   intro i
   rw [List.getElem?_take]
   split
   ·rename_i hi
    simpa using h3 i hi
   ·rename_i hi
    exact List.getElem?_eq_none (by omega)
  rw [this, List.length_take, Nat.min_eq_left h1]
  exact List.take_append_drop _ _
 ·intro h
  subst h
  refine ⟨⟨by simp, by simp⟩, allTo_to fun i hi => ?_⟩
  simp [List.getElem?_append_left hi]
theorem all_ways {s : Sy} (hw : s.ways.length = s.progs.length * s.progs.length) : s.ways.all wayB = true ↔ ∀ a b, a < s.progs.length → b < s.progs.length → wayB (wayR s a b) = true := by
 have at_ : ∀ i (hi : i < s.ways.length), (s.ways[i]?).getD [] = s.ways[i] := fun i hi => by rw [List.getElem?_eq_getElem hi]; rfl
 constructor
 ·intro h a b ha hb
  unfold wayR
  have hi := idx_lt ha hb hw
  rw [at_ _ hi]
  exact List.all_eq_true.1 h _ (List.getElem_mem _)
 ·intro h
  refine List.all_eq_true.2 fun w hw' => ?_
  obtain ⟨i, hi, rfl⟩ := List.getElem_of_mem hw'
  have hn : 0 < s.progs.length := by
   rcases Nat.eq_zero_or_pos s.progs.length with h0 | h0
   ·rw [h0] at hw; omega
   ·exact h0
  have h1 : i / s.progs.length < s.progs.length := by
   rw [Nat.div_lt_iff_lt_mul hn]
   omega
  have := h (i / s.progs.length) (i % s.progs.length) h1 (Nat.mod_lt _ hn)
  unfold wayR at this
  rw [Nat.div_add_mod' i s.progs.length, at_ _ hi] at this
  exact this
theorem sSysB_eq (s : Sy) : sSysB s = sysB s := by
 unfold sSysB sysB
 cases hs : shapeB s
 ·rfl
 have hs' := hs
 unfold shapeB at hs'
 simp only [Bool.and_eq_true, decide_eq_true_eq] at hs'
 have hn := inB_le hs'.1
 have hw := hs'.2.2.2
 rw [show sProcB s = procB s from funext fun p => sproc_eq hn p]
 cases allTo (procB s) s.progs.length
 ·simp
 cases ordrB s.hist
 ·simp
 simp only [Bool.true_and, Bool.and_true]
 rw [Bool.eq_iff_iff, Bool.and_eq_true, all_ways hw]
 constructor
 ·intro h
  have h := fun a ha => allTo_of (allTo_of h a ha)
  exact ⟨fun a b ha hb => by have := h a ha b hb; rw [sfit_eq, Bool.and_eq_true] at this; exact this.1, allTo_to fun a ha => allTo_to fun b hb => by have := h a ha b hb; rw [sfit_eq, Bool.and_eq_true] at this; exact this.2⟩
 ·rintro ⟨h1, h2⟩
  refine allTo_to fun a ha => allTo_to fun b hb => ?_
  rw [sfit_eq, h1 a b ha hb, allTo_of (allTo_of h2 a ha) b hb]
  rfl
theorem run_specSys {j : Nat} (hj : big ≤ j) (s : Sy) (h : Small s) : M.run (j + 7) 33 [.agg (syR s)] = some ([.c (.v (.bool (sysB s)))], [.agg (syR s)]) := by
 rw [← sSysB_eq]
 refine run_specSysOk hj s h fun hs hp => ?_
 unfold shapeB at hs
 simp only [Bool.and_eq_true, decide_eq_true_eq] at hs
 exact peers_in hs.2.2.1 fun p hq => by rw [← sproc_eq (inB_le hs.1)]; exact hp p hq
end Go.Proofs.YtninncdacekfgaaGreat.VM
