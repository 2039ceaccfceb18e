/- SysOk of the program: reckoned. -/
import Derived.Test.YtninncdacekfgaaK10
/- Can the events be put in a row: the specification's, reckoned. -/
namespace Go.Proofs.Ytninncdacekfgaa.VM
open Go Go.Proofs
set_option linter.unusedSimpArgs false
set_option linter.unusedVariables false
set_option maxRecDepth 100000
set_option maxHeartbeats 20000000
noncomputable def ordrB (h : List (List Ev)) : Bool := decide ((rowF h).out.length = allE h)
def sysO (s : Sy) : List (Nat × Obj) := [(0, ⟨.ro, 24, s.progs.map (rIns 40)⟩), (1, ⟨.ro, 27, stT s.states⟩), (2, ⟨.ro, 92, s.ways.map (rItem 100)⟩), (3, ⟨.ro, 54, s.hist.map (rEvent 29)⟩)]
def sysX (s : Sy) : Obj := ⟨.box, 45, [.l 0 [] 0 s.progs.length, .l 1 [] 0 s.states.length, .l 2 [] 0 s.ways.length, .l 3 [] 0 s.hist.length]⟩
def H_o1 (s : Sy) (i : Nat) : St := ⟨[(1, .ptr 128 [] 0), (3, .c (.v (.int .i64 s.hist.length))), (4, .c (.sl 960 [] 0 s.hist.length)), (5, .c (.v (.bool true))), (6, .c (.v (.int .i64 (sumD (fun q => (rowH s.hist q).length) i)))), (7, .c (.v (.int .i64 i)))], sysO s ++ [(128, sysX s), (960, ⟨.own, 3, ints (dL (fun _ => 0) s.hist.length)⟩)]⟩
def H_o2 (s : Sy) (i : Nat) : St := ⟨[(1, .ptr 128 [] 0), (3, .c (.v (.int .i64 s.hist.length))), (4, .c (.sl 960 [] 0 s.hist.length)), (5, .c (.v (.bool (pasAt s.hist i).more))), (6, .c (.v (.int .i64 (pasAt s.hist i).left)))], sysO s ++ [(128, sysX s), (960, ⟨.own, 3, ints (dL (pasAt s.hist i).d s.hist.length)⟩)]⟩
def H_o3 (s : Sy) (x : PasS) (p : Nat) : St := ⟨[(1, .ptr 128 [] 0), (3, .c (.v (.int .i64 s.hist.length))), (4, .c (.sl 960 [] 0 s.hist.length)), (5, .c (.v (.bool (pass s.hist ⟨x.d, x.left, false⟩ p).more))), (6, .c (.v (.int .i64 (pass s.hist ⟨x.d, x.left, false⟩ p).left))), (8, .c (.v (.int .i64 p)))], sysO s ++ [(128, sysX s), (960, ⟨.own, 3, ints (dL (pass s.hist ⟨x.d, x.left, false⟩ p).d s.hist.length)⟩)]⟩
end Go.Proofs.Ytninncdacekfgaa.VM

/- Systems that are right: the program's, reckoned. -/
namespace Go.Proofs.Ytninncdacekfgaa.VM
open Go Go.Proofs
set_option linter.unusedSimpArgs false
set_option linter.unusedVariables false
set_option maxRecDepth 100000
set_option maxHeartbeats 40000000
def shapeB (s : Sy) : Bool := inB s.progs.length 1 4 && (decide (s.states.length = s.progs.length) && (decide (s.hist.length = s.progs.length) && decide (s.ways.length = s.progs.length * s.progs.length)))
noncomputable def sysB (s : Sy) : Bool := shapeB s && (s.ways.all wayB && (allTo (procB s) s.progs.length && (allTo (fun a => allTo (fun b => fitsB s a b) s.progs.length) s.progs.length && ordrB s.hist)))
def H_s1 (s : Sy) (i : Nat) : St := ⟨[(1, .ptr 128 [] 0), (3, .c (.v (.int .i64 s.progs.length))), (41, .c (.v (.int .i64 s.progs.length))), (42, .c (.v (.int .i64 i)))], sysO s ++ [(128, sysX s)]⟩
def H_s2 (s : Sy) (a : Nat) : St := ⟨[(1, .ptr 128 [] 0), (3, .c (.v (.int .i64 s.progs.length))), (50, .c (.v (.int .i64 s.progs.length))), (51, .c (.v (.int .i64 a)))], sysO s ++ [(128, sysX s)]⟩
def H_s3 (s : Sy) (a b : Nat) : St := ⟨[(1, .ptr 128 [] 0), (3, .c (.v (.int .i64 s.progs.length))), (5, .c (.v (.int .i64 a))), (50, .c (.v (.int .i64 s.progs.length))), (51, .c (.v (.int .i64 a))), (54, .c (.v (.int .i64 s.progs.length))), (55, .c (.v (.int .i64 b)))], sysO s ++ [(128, sysX s)]⟩
theorem allTo_of {p : Nat → Bool} : ∀ {n : Nat}, allTo p n = true → ∀ i, i < n → p i = true
 | 0, _, i, hi => by omega
 | n + 1, h, i, hi => by
  rw [allTo, Bool.and_eq_true] at h
  rcases Nat.lt_or_ge i n with h' | h'
  ·exact allTo_of h.1 i h'
  ·have : i = n := by omega
   rw [this]
   exact h.2
theorem allTo_to {p : Nat → Bool} : ∀ {n : Nat}, (∀ i, i < n → p i = true) → allTo p n = true
 | 0, _ => rfl
 | n + 1, h => by rw [allTo, allTo_to fun i hi => h i (by omega), h n (by omega)]; rfl
theorem allTo_not {p : Nat → Bool} {n i : Nat} (hi : i < n) (h : p i = false) : allTo p n = false := by
 cases hq : allTo p n with
 | false => rfl
 | true => rw [allTo_of hq i hi] at h; simp at h
theorem peers_in {s : Sy} (hh : s.hist.length = s.progs.length) (h : ∀ p, p < s.progs.length → procB s p = true) : PeersIn s.hist := by
 intro p hp i hi hk
 have := h p (by omega)
 unfold procB at this
 simp only [Bool.and_eq_true] at this
 have h2 := this.2.1
 rw [rowH_of hp] at h2
 have h3 := List.all_eq_true.1 h2 _ (List.getElem_mem hi)
 unfold peerB at h3
 rw [hk] at h3
 simp [inB] at h3
 omega
theorem idx_lt {a b n m : Nat} (ha : a < n) (hb : b < n) (hm : m = n * n) : a * n + b < m := by
 have h1 : (a + 1) * n ≤ n * n := Nat.mul_le_mul_right n ha
 rw [Nat.add_mul, Nat.one_mul] at h1
 omega
theorem run_implSysOk {j : Nat} (hj : big ≤ j) (s : Sy) (h : Small s) : M.run (j + 10) 43 [.agg (syR s)] = some ([.c (.v (.bool (sysB s)))], [.agg (syR s)]) := by
 have b1 := h.progs
 have b2 := h.states
 have b3 := h.ways
 have b4 := h.hist
 have ew := run_allWays (j := j) hj s.ways b3 (fun w hw => by have := tot_len s.ways w hw; have := h.waysT; omega)
 have e0 := run64 (j := j + 8) s.progs.length 1 4
 have wn := mul_le20 b1 b1
 have w1 := w64 (x := (s.progs.length : Int) * (s.progs.length : Int)) (by omega)
 have hcast : ((s.progs.length * s.progs.length : Nat) : Int) = (s.progs.length : Int) * s.progs.length := by simp
 unfold sysB shapeB
 rw [m_run (fn := Try.f43) (i0 := 0) rfl Try.func43 rfl rfl (by simp [syR])]
 cases c1 : inB s.progs.length 1 4
 ·rw [c1] at e0
  simp -implicitDefEqProofs [syR, own1, e0]
 rw [c1] at e0
 have hn4 := inB_le c1
 by_cases c2 : s.states.length = s.progs.length
 rotate_left
 ·simp -implicitDefEqProofs [syR, own1, e0, c2, show ¬ (s.states.length : Int) = s.progs.length by omega]
 have k2 : (s.states.length : Int) = s.progs.length := by omega
 by_cases c3 : s.hist.length = s.progs.length
 rotate_left
 ·simp -implicitDefEqProofs [syR, own1, e0, k2, c3, show ¬ (s.hist.length : Int) = s.progs.length by omega]
 have k3 : (s.hist.length : Int) = s.progs.length := by omega
 by_cases c4 : s.ways.length = s.progs.length * s.progs.length
 rotate_left
 ·simp -implicitDefEqProofs [syR, own1, e0, k2, k3, c4, w1, show ¬ (s.ways.length : Int) = (s.progs.length : Int) * s.progs.length by omega]
 have k4 : (s.ways.length : Int) = (s.progs.length : Int) * s.progs.length := by omega
 rw [decide_eq_true c2, decide_eq_true c3, decide_eq_true c4]
 cases c5 : s.ways.all wayB
 ·rw [c5] at ew
  simp -implicitDefEqProofs [syR, own1, e0, k2, k3, k4, w1, ew]
 rw [c5] at ew
 simp -implicitDefEqProofs [syR, own1, e0, k2, k3, k4, w1, ew]
 have pr : ∀ p, p < s.progs.length → M.run (j + 9) 71 [.agg (syR s), .c (.v (.int .i64 p))] = some ([.c (.v (.bool (procB s p)))], [.agg (syR s), .c (.v (.int .i64 p))]) := fun p hp => run_procOk hj s h p hp (by omega) (by omega)
 rcases allTo_or' (procB s) s.progs.length with hp | ⟨m, hm, hbad, hp⟩
 rotate_left
 ·have em := pr m hm
  rw [hbad] at em
  simp only [syR] at em
  rw [loop_to (H_s1 s) m (by simp -implicitDefEqProofs [H_s1, sysO, sysX, hint1]) (by simp [big] at hj; omega) (fun i hi => by
   have hi' : i < s.progs.length := by omega
   have e := pr i hi'
   rw [hp i hi] at e
   simp only [syR] at e
   simp -implicitDefEqProofs [H_s1, sysO, sysX, hint1, hi', own1, e, w64 (x := (i : Int) + 1) (by omega)]) (by simp -implicitDefEqProofs [H_s1, sysO, sysX, stops, hm, own1, em])]
  rw [allTo_not hm hbad]
  simp -implicitDefEqProofs [H_s1, sysO, sysX, hm, own1, em]
 rw [allTo_to hp]
 rw [loop_to (H_s1 s) s.progs.length (by simp -implicitDefEqProofs [H_s1, sysO, sysX, hint1]) (by simp [big] at hj; omega) (fun i hi => by
  have e := pr i hi
  rw [hp i hi] at e
  simp only [syR] at e
  simp -implicitDefEqProofs [H_s1, sysO, sysX, hint1, hi, own1, e, w64 (x := (i : Int) + 1) (by omega)]) (by simp -implicitDefEqProofs [H_s1, sysO, sysX, stops])]
 simp -implicitDefEqProofs [H_s1, sysO, sysX]
 rcases allTo_or' (fun a => allTo (fun b => fitsB s a b) s.progs.length) s.progs.length with hf | ⟨a, ha, hbad, hf⟩
 ·rw [allTo_to hf]
  rw [loop_to (H_s2 s) s.progs.length (by simp -implicitDefEqProofs [H_s2, sysO, sysX, hint1]) (by simp [big] at hj; omega) (fun a ha => by
   have hfa := allTo_of (hf a ha)
   simp -implicitDefEqProofs [H_s2, sysO, sysX, hint1, ha]
   rw [loop_to (H_s3 s a) s.progs.length (by simp -implicitDefEqProofs [H_s3, sysO, sysX, hint1]) (by simp [big] at hj; omega) (fun b hb => by
    have e := run_fits (j := j + 6) (by omega) s h a b ha hb (by omega) (by omega) (idx_lt ha hb c4)
    rw [hfa b hb] at e
    simp only [syR] at e
    simp -implicitDefEqProofs [H_s3, sysO, sysX, hint1, hb, own1, e, w64 (x := (b : Int) + 1) (by omega)]) (by simp -implicitDefEqProofs [H_s3, sysO, sysX, stops])]
   simp -implicitDefEqProofs [H_s3, sysO, sysX, hint1, w64 (x := (a : Int) + 1) (by omega)]) (by simp -implicitDefEqProofs [H_s2, sysO, sysX, stops])]
  have er := run_rowOf (j := j + 5) (by omega) s.hist b4 h.histT (peers_in c3 hp)
  have ea := run_allEvents (j := j + 8) (by omega) s.hist b4 h.histT
  have hb : (((rowF s.hist).out.length : Int) == (allE s.hist : Int)) = ordrB s.hist := by
   unfold ordrB
   by_cases hq : (rowF s.hist).out.length = allE s.hist
   ·rw [decide_eq_true hq, hq]; simp
   ·rw [decide_eq_false hq]
    simp
    omega
  rw [← hb]
  simp -implicitDefEqProofs [H_s2, sysO, sysX, own1, er, ea]
 ·rcases allTo_or' (fun b => fitsB s a b) s.progs.length with hg | ⟨b, hb, hbb, hg⟩
  ·have hbad : allTo (fun b => fitsB s a b) s.progs.length = false := hbad
   rw [allTo_to hg] at hbad
   simp at hbad
  have eb := run_fits (j := j + 6) (by omega) s h a b ha hb (by omega) (by omega) (idx_lt ha hb c4)
  rw [hbb] at eb
  simp only [syR] at eb
  rw [allTo_not (p := fun a => allTo (fun b => fitsB s a b) s.progs.length) ha hbad]
  rw [loop_to (H_s2 s) a (by simp -implicitDefEqProofs [H_s2, sysO, sysX, hint1]) (by simp [big] at hj; omega) (fun a' ha' => by
   have ha2 : a' < s.progs.length := by omega
   have hfa := allTo_of (hf a' ha')
   simp -implicitDefEqProofs [H_s2, sysO, sysX, hint1, ha2]
   rw [loop_to (H_s3 s a') s.progs.length (by simp -implicitDefEqProofs [H_s3, sysO, sysX, hint1]) (by simp [big] at hj; omega) (fun b hb => by
    have e := run_fits (j := j + 6) (by omega) s h a' b ha2 hb (by omega) (by omega) (idx_lt ha2 hb c4)
    rw [hfa b hb] at e
    simp only [syR] at e
    simp -implicitDefEqProofs [H_s3, sysO, sysX, hint1, hb, own1, e, w64 (x := (b : Int) + 1) (by omega)]) (by simp -implicitDefEqProofs [H_s3, sysO, sysX, stops])]
   simp -implicitDefEqProofs [H_s3, sysO, sysX, hint1, w64 (x := (a' : Int) + 1) (by omega)]) (by
   simp -implicitDefEqProofs [H_s2, sysO, sysX, stops, ha]
   rw [loop_to (H_s3 s a) b (by simp -implicitDefEqProofs [H_s3, sysO, sysX, hint1]) (by simp [big] at hj; omega) (fun b' hb' => by
    have hb2 : b' < s.progs.length := by omega
    have e := run_fits (j := j + 6) (by omega) s h a b' ha hb2 (by omega) (by omega) (idx_lt ha hb2 c4)
    rw [hg b' hb'] at e
    simp only [syR] at e
    simp -implicitDefEqProofs [H_s3, sysO, sysX, hint1, hb2, own1, e, w64 (x := (b' : Int) + 1) (by omega)]) (by simp -implicitDefEqProofs [H_s3, sysO, sysX, stops, hb, own1, eb])]
   simp -implicitDefEqProofs [H_s3, sysO, sysX, stops, hb, own1, eb])]
  simp -implicitDefEqProofs [H_s2, sysO, sysX, ha]
  rw [loop_to (H_s3 s a) b (by simp -implicitDefEqProofs [H_s3, sysO, sysX, hint1]) (by simp [big] at hj; omega) (fun b' hb' => by
   have hb2 : b' < s.progs.length := by omega
   have e := run_fits (j := j + 6) (by omega) s h a b' ha hb2 (by omega) (by omega) (idx_lt ha hb2 c4)
   rw [hg b' hb'] at e
   simp only [syR] at e
   simp -implicitDefEqProofs [H_s3, sysO, sysX, hint1, hb2, own1, e, w64 (x := (b' : Int) + 1) (by omega)]) (by simp -implicitDefEqProofs [H_s3, sysO, sysX, stops, hb, own1, eb])]
  simp -implicitDefEqProofs [H_s3, sysO, sysX, stops, hb, own1, eb]
end Go.Proofs.Ytninncdacekfgaa.VM
