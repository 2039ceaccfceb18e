/- The law FnExactStep: reckoned. -/
import Derived.Test.YtninncdacekfgaaGreatK16s
import Derived.Test.YtninncdacekfgaaGreatK18s
import Derived.Test.YtninncdacekfgaaGreatK19s
set_option linter.unusedSimpArgs false
set_option linter.unusedVariables false
set_option maxRecDepth 100000
set_option maxHeartbeats 40000000
namespace Go.Proofs.YtninncdacekfgaaGreat.VM
open Go Go.Proofs
theorem r13 : List.range 13 = [0, 1, 2, 3, 4, 5, 6, 7, 8, 9, 10, 11, 12] := rfl
def H_cp1 (s : Sy) (i : Nat) : St := ⟨[(1, .ptr 128 [] 0), (2, .ptr 192 [] 0), (3, .ptr 256 [] 0), (4, .c (.v (.int .i64 i)))], sysO s ++ ([(128, sysX s), (192, zBox), (256, ⟨.box, 29, [.l 576 [] 0 s.progs.length, lkZ 1920 i, .z, .l 768 [] 0 s.hist.length]⟩), (576, ⟨.own, 100, s.progs.map (sIns 105)⟩), (768, ⟨.own, 68, s.hist.map (sEvent 96)⟩)] ++ obZ 1920 i ⟨.own, 71, ssT (s.states.take i)⟩)⟩
def H_cp2 (s : Sy) (sn i : Nat) : St := ⟨[(1, .ptr 128 [] 0), (2, .ptr 192 [] 0), (3, .ptr 256 [] 0), (5, .c (.v (.int .i64 i)))], sysO s ++ ([(128, sysX s), (192, zBox), (256, ⟨.box, 29, [.l 576 [] 0 s.progs.length, lkZ 1920 sn, lkZ 3136 i, .l 768 [] 0 s.hist.length]⟩), (576, ⟨.own, 100, s.progs.map (sIns 105)⟩), (768, ⟨.own, 68, s.hist.map (sEvent 96)⟩)] ++ (obZ 1920 sn ⟨.own, 71, ssT s.states⟩ ++ obZ 3136 i ⟨.own, 97, (s.ways.take i).map (sItem 99)⟩))⟩
theorem run_l4Copy {j : Nat} (hj : big ≤ j) (s : Sy) (h : Small s) : M.run (j + 2) 32 [.agg (syR s)] = some ([.agg (syS s)], [.agg (syR s)]) := by
 have b1 := h.progs
 have b2 := h.states
 have b3 := h.ways
 have b4 := h.hist
 have e1 := run_l4Ins hj s.progs b1 (fun x hx => by obtain ⟨i, hi, rfl⟩ := List.getElem_of_mem hx; exact h.prog hi)
 have e2 := run_l4Events hj s.hist b4 (fun x hx => by obtain ⟨i, hi, rfl⟩ := List.getElem_of_mem hx; exact h.his hi)
 rw [m_run (fn := Tryz.f32) (i0 := 0) rfl Tryz.func32 rfl rfl (by simp [syR])]
 simp only [syR, syS]
 simp -implicitDefEqProofs [own1, e1, e2]
 rw [loop_then (H_cp1 s) s.states.length (by simp -implicitDefEqProofs [H_cp1, sysO, sysX, zBox, hint1]) (by simp [big] at hj; omega) (fun i hi => by
  have hb := h.sta _ (List.getElem_mem hi)
  have e3 := run97 (j := j) s.states[i] hb.1 hb.2
  simp only [tSta, stR, sSta, stS] at e3
  have hs := ssT_snoc hi
  have tk := ssT_tk s.states i
  have hm : min i s.states.length = i := by omega
  have lm : (i + 1) * 4 ≤ most := by unfold most; omega
  have lm' : i * 4 + 4 ≤ most := by unfold most; omega
  have l4 : 4 ≤ most := by unfold most; omega
  simp only [sSta, stS] at hs
  by_cases hz : i = 0
  ·have hs0 : ssT (s.states.take i) = [] := by rw [hz]; rfl
   rw [hs0] at hs
   simp -implicitDefEqProofs [H_cp1, sysO, sysX, zBox, hint1, hi, own1, e3, tSta, stR, stT_1 hi, stT_2 hi, hs, hs0, hm, l4, lkZ_z hz, obZ_z hz, w64 (x := (i : Int) + 1) (by omega)] <;> omega
  ·simp -implicitDefEqProofs [H_cp1, sysO, sysX, zBox, hint1, hi, own1, e3, tSta, stR, stT_1 hi, stT_2 hi, hs, tk, hm, lm, lm', lkZ_of hz, obZ_of hz, w64 (x := (i : Int) + 1) (by omega)])]
 have e4 : ∀ i (hi : i < s.ways.length), s.ways[i].length * 2 ≤ most := fun i hi => by have := h.way hi; unfold most; omega
 have fin : (ssT s.states).take (s.states.length * 4) = ssT s.states := List.take_of_length_le (by rw [ssT_len]; exact Nat.le_refl _)
 have finw : (s.ways.map (sItem 99)).take s.ways.length = s.ways.map (sItem 99) := List.take_of_length_le (by simp)
 have finp : (s.progs.map (sIns 105)).take s.progs.length = s.progs.map (sIns 105) := List.take_of_length_le (by simp)
 have finh : (s.hist.map (sEvent 96)).take s.hist.length = s.hist.map (sEvent 96) := List.take_of_length_le (by simp)
 have f1 : s.states.take s.states.length = s.states := List.take_length
 have f2 : s.ways.take s.ways.length = s.ways := List.take_length
 simp -implicitDefEqProofs [H_cp1, sysO, sysX, zBox, f1]
 generalize hSn : s.states.length = sn at *
 rw [loop_then (H_cp2 s sn) s.ways.length (by cases sn <;> simp -implicitDefEqProofs [H_cp2, sysO, sysX, zBox, hint1, hSn]) (by simp [big] at hj; omega) (fun i hi => by
  have hs := sItem_snoc (e := 99) hi
  have tk := take_map (sItem 99) s.ways i
  have hm : min i s.ways.length = i := by omega
  have lm := le_most (n := i + 1) (by omega)
  have l1 : 1 ≤ most := by unfold most; omega
  have hb := e4 i hi
  by_cases hz : i = 0
  ·have hs0 : s.ways.take i = [] := by rw [hz]; rfl
   rw [hs0] at hs
   cases sn with
   | zero => simp -implicitDefEqProofs [exQ, exB, behind, hasAfter, r13, Region.binds, H_cp2, sysO, sysX, zBox, hint1, hi, own1, rItem_at hi, rItem, sItem, hs, hs0, hm, l1, hSn, hb, lkZ_z hz, obZ_z hz, w64 (x := (i : Int) + 1) (by omega)] <;> omega
   | succ sn => simp -implicitDefEqProofs [exQ, exB, behind, hasAfter, r13, Region.binds, H_cp2, sysO, sysX, zBox, hint1, hi, own1, rItem_at hi, rItem, sItem, hs, hs0, hm, l1, hSn, hb, lkZ_z hz, obZ_z hz, w64 (x := (i : Int) + 1) (by omega)] <;> omega
  ·cases sn with
   | zero => simp -implicitDefEqProofs [exQ, exB, behind, hasAfter, r13, Region.binds, H_cp2, sysO, sysX, zBox, hint1, hi, own1, rItem_at hi, rItem, sItem, hs, tk, hm, lm, hSn, hb, lkZ_of hz, obZ_of hz, w64 (x := (i : Int) + 1) (by omega), -List.map_take]
   | succ sn => simp -implicitDefEqProofs [exQ, exB, behind, hasAfter, r13, Region.binds, H_cp2, sysO, sysX, zBox, hint1, hi, own1, rItem_at hi, rItem, sItem, hs, tk, hm, lm, hSn, hb, lkZ_of hz, obZ_of hz, w64 (x := (i : Int) + 1) (by omega), -List.map_take])]
 clear e4
 have z1 : sn = 0 → ssT s.states = [] := fun e => by
  have : s.states = [] := List.eq_nil_of_length_eq_zero (by omega)
  rw [this]; rfl
 have z2 : s.ways.length = 0 → s.ways.map (sItem 99) = [] := fun e => by
  have : s.ways = [] := List.eq_nil_of_length_eq_zero e
  rw [this]; rfl
 generalize hWn : s.ways.length = wn at *
 cases sn with
 | zero =>
  cases wn with
  | zero => simp -implicitDefEqProofs [H_cp2, sysO, sysX, zBox, hSn, hWn, f1, f2, z1, z2, finp, finh]
  | succ wn => simp -implicitDefEqProofs [H_cp2, sysO, sysX, zBox, hSn, hWn, f1, f2, z1, finw, finp, finh]
 | succ sn =>
  cases wn with
  | zero => simp -implicitDefEqProofs [H_cp2, sysO, sysX, zBox, hSn, hWn, f1, f2, z2, fin, finp, finh]
  | succ wn => simp -implicitDefEqProofs [H_cp2, sysO, sysX, zBox, hSn, hWn, f1, f2, fin, finw, finp, finh]
end Go.Proofs.YtninncdacekfgaaGreat.VM
namespace Go.Proofs.YtninncdacekfgaaGreat.VM
open Go Go.Proofs
noncomputable def stepR (s : Sy) (p peer : Int) : Sy × Int := if sysB s = true then stepF s p peer else (zSy, 1)
theorem run_specStep {j : Nat} (hj : big ≤ j) (s : Sy) (h : Small s) (p peer : Int) : M.run (j + 8) 34 [.agg (syR s), .c (.v (.int .i64 p)), .c (.v (.int .i64 peer))] = some ([.agg (syS (stepR s p peer).1), .c (.v (.int .i64 (stepR s p peer).2))], [.agg (syR s), .c (.v (.int .i64 p)), .c (.v (.int .i64 peer))]) := by
 have e1 := run_specSys hj s h
 have e3 := run_l4Copy (j := j + 5) (by omega) s h
 rw [m_run (fn := Tryz.f34) (i0 := 0) rfl Tryz.func34 rfl rfl (by simp [syR])]
 unfold stepR
 cases hb : sysB s
 ·rw [hb] at e1
  simp only [syR] at e1 ⊢
  simp -implicitDefEqProofs [own1, e1, syS, zSy]
 ·have R := right_iff.1 hb
  have e2 := run_l5Step (j := j + 2) (by omega) s R p peer
  rw [hb] at e1
  have hs : (stepF s p peer).2 ≠ 0 → (stepF s p peer).1 = s := by
   intro hn
   unfold stepF at hn ⊢
   split
   ·rename_i hc
    rw [if_pos hc] at hn
    exact absurd rfl hn
   ·rfl
  have w1 : ∀ l : List (List Ins), (l.map (sIns 105)).take l.length = l.map (sIns 105) := fun l => List.take_of_length_le (by simp)
  have w2 : ∀ l : List Sta, (ssT l).take (l.length * 4) = ssT l := fun l => List.take_of_length_le (by rw [ssT_len]; exact Nat.le_refl _)
  have w3 : ∀ l : List (List Itm), (l.map (sItem 99)).take l.length = l.map (sItem 99) := fun l => List.take_of_length_le (by simp)
  have w4 : ∀ l : List (List Ev), (l.map (sEvent 96)).take l.length = l.map (sEvent 96) := fun l => List.take_of_length_le (by simp)
  generalize stepF s p peer = D at *
  obtain ⟨S, c⟩ := D
  simp only at hs
  by_cases hc : c = 0
  ·subst hc
   simp only [syR, syS, goneS] at e1 e2 e3 ⊢
   simp -implicitDefEqProofs [own1, e1, e2, e3, w1, w2, w3, w4, -List.map_take]
  ·have hS := hs hc
   subst hS
   simp only [syR, syS, goneS] at e1 e2 e3 ⊢
   simp -implicitDefEqProofs [own1, e1, e2, e3, hc, w1, w2, w3, w4, -List.map_take]
end Go.Proofs.YtninncdacekfgaaGreat.VM
