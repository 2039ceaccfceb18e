/- Systems copied by the program, empty ones too. -/
import Derived.Test.YtninncdacekfgaaK19
/- Systems copied by the program, empty ones too: reckoned. -/
namespace Go.Proofs.Ytninncdacekfgaa.VM
open Go Go.Proofs
set_option linter.unusedSimpArgs false
set_option linter.unusedVariables false
set_option maxRecDepth 100000
set_option maxHeartbeats 40000000
def H_d2 (s : Sy) (i : Nat) : St := ⟨[(1, .ptr 128 [] 0), (2, .ptr 192 [] 0), (3, .ptr 256 [] 0), (29, .c (.sl 1 [] 0 s.states.length)), (30, .c (.v (.int .i64 s.states.length))), (31, .c (.v (.int .i64 i)))], sysO s ++ ([(128, sysX s), (192, zBox), (256, ⟨.box, 45, [lkZ 1664 s.progs.length, lkZ 2624 i, .z, .z]⟩)] ++ (obZ 1664 s.progs.length (cO1 s).2 ++ obZ 2624 i ⟨.own, 27, ssT (s.states.take i)⟩))⟩
def H_d3 (s : Sy) (i : Nat) : St := ⟨[(1, .ptr 128 [] 0), (2, .ptr 192 [] 0), (3, .ptr 256 [] 0), (44, .c (.sl 2 [] 0 s.ways.length)), (45, .c (.v (.int .i64 s.ways.length))), (46, .c (.v (.int .i64 i)))], sysO s ++ ([(128, sysX s), (192, zBox), (256, ⟨.box, 45, [lkZ 1664 s.progs.length, lkZ 2624 s.states.length, lkZ 3584 i, .z]⟩)] ++ (obZ 1664 s.progs.length (cO1 s).2 ++ (obZ 2624 s.states.length (cO2 s).2 ++ obZ 3584 i ⟨.own, 92, (s.ways.take i).map (sItem 100)⟩)))⟩
def H_d4 (s : Sy) (i : Nat) : St := ⟨[(2, .ptr 192 [] 0), (3, .ptr 256 [] 0), (59, .c (.sl 3 [] 0 s.hist.length)), (60, .c (.v (.int .i64 s.hist.length))), (61, .c (.v (.int .i64 i)))], sysO s ++ ([(128, sysX s), (192, zBox), (256, ⟨.box, 45, [lkZ 1664 s.progs.length, lkZ 2624 s.states.length, lkZ 3584 s.ways.length, lkZ 4544 i]⟩)] ++ (obZ 1664 s.progs.length (cO1 s).2 ++ (obZ 2624 s.states.length (cO2 s).2 ++ (obZ 3584 s.ways.length (cO3 s).2 ++ obZ 4544 i ⟨.own, 54, (s.hist.take i).map (sEvent 29)⟩))))⟩
theorem run_cloneSysG {j : Nat} (hj : big ≤ j) (s : Sy) (h : Small s) : M.run (j + 3) 44 [.agg (syR s)] = some ([.agg (syS s)], [.agg (syR s)]) := by
 have b1 := h.progs
 have b2 := h.states
 have b3 := h.ways
 have b4 := h.hist
 have f1 : (lkZ 1664 s.progs.length = .z ∧ (∀ ob, obZ 1664 s.progs.length ob = []) ∧ s.progs = []) ∨ (lkZ 1664 s.progs.length = .l 1664 [] 0 s.progs.length ∧ (∀ ob, obZ 1664 s.progs.length ob = [(1664, ob)]) ∧ True) := by
  by_cases z : s.progs.length = 0
  ·exact .inl ⟨lkZ_z z, fun _ => obZ_z z, List.eq_nil_of_length_eq_zero z⟩
  ·exact .inr ⟨lkZ_of z, fun _ => obZ_of z, trivial⟩
 have f2 : (lkZ 2624 s.states.length = .z ∧ (∀ ob, obZ 2624 s.states.length ob = []) ∧ s.states = []) ∨ (lkZ 2624 s.states.length = .l 2624 [] 0 s.states.length ∧ (∀ ob, obZ 2624 s.states.length ob = [(2624, ob)]) ∧ True) := by
  by_cases z : s.states.length = 0
  ·exact .inl ⟨lkZ_z z, fun _ => obZ_z z, List.eq_nil_of_length_eq_zero z⟩
  ·exact .inr ⟨lkZ_of z, fun _ => obZ_of z, trivial⟩
 have f3 : (lkZ 3584 s.ways.length = .z ∧ (∀ ob, obZ 3584 s.ways.length ob = []) ∧ s.ways = []) ∨ (lkZ 3584 s.ways.length = .l 3584 [] 0 s.ways.length ∧ (∀ ob, obZ 3584 s.ways.length ob = [(3584, ob)]) ∧ True) := by
  by_cases z : s.ways.length = 0
  ·exact .inl ⟨lkZ_z z, fun _ => obZ_z z, List.eq_nil_of_length_eq_zero z⟩
  ·exact .inr ⟨lkZ_of z, fun _ => obZ_of z, trivial⟩
 have f4 : (lkZ 4544 s.hist.length = .z ∧ (∀ ob, obZ 4544 s.hist.length ob = []) ∧ s.hist = []) ∨ (lkZ 4544 s.hist.length = .l 4544 [] 0 s.hist.length ∧ (∀ ob, obZ 4544 s.hist.length ob = [(4544, ob)]) ∧ True) := by
  by_cases z : s.hist.length = 0
  ·exact .inl ⟨lkZ_z z, fun _ => obZ_z z, List.eq_nil_of_length_eq_zero z⟩
  ·exact .inr ⟨lkZ_of z, fun _ => obZ_of z, trivial⟩
 have l4 : 4 ≤ most := by unfold most; omega
 have l1 : 1 ≤ most := by unfold most; omega
 rw [m_run (fn := Try.f44) (i0 := 0) rfl Try.func44 rfl rfl (by simp [syR])]
 simp only [syR, syS]
 simp -implicitDefEqProofs [own1]
 rw [loop_then (H_c1 s) s.progs.length (by simp -implicitDefEqProofs [H_c1, sysO, sysX, zBox, hint1]) (by simp [big] at hj; omega) (fun i hi => by
  have hb := h.prog hi
  have e3 := run_cloneIns (j := j + 1) s.progs[i] hb
  have hs := sIns_snoc (e := 40) hi
  have tk := take_map (sIns 40) s.progs i
  have hm : min i s.progs.length = i := by omega
  have lm := le_most (n := i + 1) (by omega)
  by_cases hz : i = 0
  ·have hs0 : s.progs.take i = [] := by rw [hz]; rfl
   rw [hs0] at hs
   simp -implicitDefEqProofs [H_c1, sysO, sysX, zBox, hint1, hi, own1, e3, rIns_at hi, rIns, sIns, hs, hs0, hm, l1, lkZ_z hz, obZ_z hz, w64 (x := (i : Int) + 1) (by omega)] <;> omega
  ·simp -implicitDefEqProofs [H_c1, sysO, sysX, zBox, hint1, hi, own1, e3, rIns_at hi, rIns, sIns, hs, tk, hm, lm, lkZ_of hz, obZ_of hz, w64 (x := (i : Int) + 1) (by omega), -List.map_take])]
 have k1 : s.progs.take s.progs.length = s.progs := List.take_length
 have k2 : s.states.take s.states.length = s.states := List.take_length
 have k3 : s.ways.take s.ways.length = s.ways := List.take_length
 have k4 : s.hist.take s.hist.length = s.hist := List.take_length
 simp -implicitDefEqProofs [H_c1, sysO, sysX, zBox, k1]
 rw [loop_then (H_d2 s) s.states.length (by rcases f1 with ⟨a1, b1, _⟩ | ⟨a1, b1, _⟩ <;> simp -implicitDefEqProofs [H_d2, a1, b1, cO1, sysO, sysX, zBox, hint1]) (by simp [big] at hj; omega) (fun i hi => by
  have hb := h.sta _ (List.getElem_mem hi)
  have e3 := run_cloneState (j := j) s.states[i] hb.1 hb.2
  simp only [tSta, stR, sSta, stS] at e3
  have hs := ssT_snoc hi
  have tk := ssT_tk s.states i
  have hm : min i s.states.length = i := by omega
  have lm : (i + 1) * 4 ≤ most := by unfold most; omega
  have lm' : i * 4 + 4 ≤ most := by unfold most; omega
  simp only [sSta, stS] at hs
  by_cases hz : i = 0
  ·have hs0 : ssT (s.states.take i) = [] := by rw [hz]; rfl
   rw [hs0] at hs
   rcases f1 with ⟨a1, b1, _⟩ | ⟨a1, b1, _⟩ <;> (simp -implicitDefEqProofs [H_d2, a1, b1, cO1, sysO, sysX, zBox, hint1, hi, own1, e3, tSta, stR, stT_1 hi, stT_2 hi, hs, hs0, hm, l4, lkZ_z hz, obZ_z hz, w64 (x := (i : Int) + 1) (by omega)] <;> omega)
  ·rcases f1 with ⟨a1, b1, _⟩ | ⟨a1, b1, _⟩ <;> simp -implicitDefEqProofs [H_d2, a1, b1, cO1, sysO, sysX, zBox, hint1, hi, own1, e3, tSta, stR, stT_1 hi, stT_2 hi, hs, tk, hm, lm, lm', lkZ_of hz, obZ_of hz, w64 (x := (i : Int) + 1) (by omega)])]
 simp -implicitDefEqProofs [H_d2, sysO, sysX, zBox, k2]
 rw [loop_then (H_d3 s) s.ways.length (by rcases f1 with ⟨a1, b1, _⟩ | ⟨a1, b1, _⟩ <;> rcases f2 with ⟨a2, b2, _⟩ | ⟨a2, b2, _⟩ <;> simp -implicitDefEqProofs [H_d3, a1, b1, a2, b2, cO1, cO2, sysO, sysX, zBox, hint1]) (by simp [big] at hj; omega) (fun i hi => by
  have hb := h.way hi
  have e3 := run_cloneItem (j := j + 1) s.ways[i] hb
  have hs := sItem_snoc (e := 100) hi
  have tk := take_map (sItem 100) s.ways i
  have hm : min i s.ways.length = i := by omega
  have lm := le_most (n := i + 1) (by omega)
  by_cases hz : i = 0
  ·have hs0 : s.ways.take i = [] := by rw [hz]; rfl
   rw [hs0] at hs
   rcases f1 with ⟨a1, b1, _⟩ | ⟨a1, b1, _⟩ <;> rcases f2 with ⟨a2, b2, _⟩ | ⟨a2, b2, _⟩ <;> (simp -implicitDefEqProofs [H_d3, a1, b1, a2, b2, cO1, cO2, sysO, sysX, zBox, hint1, hi, own1, e3, rItem_at hi, rItem, sItem, hs, hs0, hm, l1, lkZ_z hz, obZ_z hz, w64 (x := (i : Int) + 1) (by omega)] <;> omega)
  ·rcases f1 with ⟨a1, b1, _⟩ | ⟨a1, b1, _⟩ <;> rcases f2 with ⟨a2, b2, _⟩ | ⟨a2, b2, _⟩ <;> simp -implicitDefEqProofs [H_d3, a1, b1, a2, b2, cO1, cO2, sysO, sysX, zBox, hint1, hi, own1, e3, rItem_at hi, rItem, sItem, hs, tk, hm, lm, lkZ_of hz, obZ_of hz, w64 (x := (i : Int) + 1) (by omega), -List.map_take])]
 simp -implicitDefEqProofs [H_d3, sysO, sysX, zBox, k3]
 rw [loop_then (H_d4 s) s.hist.length (by rcases f1 with ⟨a1, b1, _⟩ | ⟨a1, b1, _⟩ <;> rcases f2 with ⟨a2, b2, _⟩ | ⟨a2, b2, _⟩ <;> rcases f3 with ⟨a3, b3, _⟩ | ⟨a3, b3, _⟩ <;> simp -implicitDefEqProofs [H_d4, a1, b1, a2, b2, a3, b3, cO1, cO2, cO3, sysO, sysX, zBox, hint1]) (by simp [big] at hj; omega) (fun i hi => by
  have hb := h.his hi
  have e3 := run_cloneEvent (j := j + 1) s.hist[i] hb
  have hs := sEvent_snoc (e := 29) hi
  have tk := take_map (sEvent 29) s.hist i
  have hm : min i s.hist.length = i := by omega
  have lm := le_most (n := i + 1) (by omega)
  by_cases hz : i = 0
  ·have hs0 : s.hist.take i = [] := by rw [hz]; rfl
   rw [hs0] at hs
   rcases f1 with ⟨a1, b1, _⟩ | ⟨a1, b1, _⟩ <;> rcases f2 with ⟨a2, b2, _⟩ | ⟨a2, b2, _⟩ <;> rcases f3 with ⟨a3, b3, _⟩ | ⟨a3, b3, _⟩ <;> (simp -implicitDefEqProofs [H_d4, a1, b1, a2, b2, a3, b3, cO1, cO2, cO3, sysO, sysX, zBox, hint1, hi, own1, e3, rEvent_at hi, rEvent, sEvent, hs, hs0, hm, l1, lkZ_z hz, obZ_z hz, w64 (x := (i : Int) + 1) (by omega)] <;> omega)
  ·rcases f1 with ⟨a1, b1, _⟩ | ⟨a1, b1, _⟩ <;> rcases f2 with ⟨a2, b2, _⟩ | ⟨a2, b2, _⟩ <;> rcases f3 with ⟨a3, b3, _⟩ | ⟨a3, b3, _⟩ <;> simp -implicitDefEqProofs [H_d4, a1, b1, a2, b2, a3, b3, cO1, cO2, cO3, sysO, sysX, zBox, hint1, hi, own1, e3, rEvent_at hi, rEvent, sEvent, hs, tk, hm, lm, lkZ_of hz, obZ_of hz, w64 (x := (i : Int) + 1) (by omega), -List.map_take])]
 have t1 : (s.progs.map (sIns 40)).take s.progs.length = s.progs.map (sIns 40) := List.take_of_length_le (by simp)
 have t2 : (ssT s.states).take (s.states.length * 4) = ssT s.states := List.take_of_length_le (by rw [ssT_len]; exact Nat.le_refl _)
 have t3 : (s.ways.map (sItem 100)).take s.ways.length = s.ways.map (sItem 100) := List.take_of_length_le (by simp)
 have t4 : (s.hist.map (sEvent 29)).take s.hist.length = s.hist.map (sEvent 29) := List.take_of_length_le (by simp)
 rcases f1 with ⟨a1, b1, c1⟩ | ⟨a1, b1, c1⟩ <;> rcases f2 with ⟨a2, b2, c2⟩ | ⟨a2, b2, c2⟩ <;> rcases f3 with ⟨a3, b3, c3⟩ | ⟨a3, b3, c3⟩ <;> rcases f4 with ⟨a4, b4, c4⟩ | ⟨a4, b4, c4⟩ <;>
  simp -implicitDefEqProofs [H_d4, a1, b1, c1, a2, b2, c2, a3, b3, c3, a4, b4, c4, cO1, cO2, cO3, sysO, sysX, zBox, k4, t1, t2, t3, t4, -List.map_take]
end Go.Proofs.Ytninncdacekfgaa.VM
