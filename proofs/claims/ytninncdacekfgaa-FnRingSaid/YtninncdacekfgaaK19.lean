/- The program's steps: reckoned. -/
import Derived.Test.YtninncdacekfgaaK16
import Derived.Test.YtninncdacekfgaaK18
/- Systems copied by the program: reckoned. -/
namespace Go.Proofs.Ytninncdacekfgaa.VM
open Go Go.Proofs
set_option linter.unusedSimpArgs false
set_option linter.unusedVariables false
set_option maxRecDepth 100000
set_option maxHeartbeats 40000000
/-- No row of it is empty. -/
structure Full (s : Sy) : Prop where
 progs : 0 < s.progs.length
 states : 0 < s.states.length
 ways : 0 < s.ways.length
 hist : 0 < s.hist.length
def H_c1 (s : Sy) (i : Nat) : St := ⟨[(1, .ptr 128 [] 0), (2, .ptr 192 [] 0), (3, .ptr 256 [] 0), (14, .c (.sl 0 [] 0 s.progs.length)), (15, .c (.v (.int .i64 s.progs.length))), (16, .c (.v (.int .i64 i)))], sysO s ++ ([(128, sysX s), (192, zBox), (256, ⟨.box, 45, [lkZ 1664 i, .z, .z, .z]⟩)] ++ obZ 1664 i ⟨.own, 24, (s.progs.take i).map (sIns 40)⟩)⟩
def cO1 (s : Sy) : Nat × Obj := (1664, ⟨.own, 24, s.progs.map (sIns 40)⟩)
def cO2 (s : Sy) : Nat × Obj := (2624, ⟨.own, 27, ssT s.states⟩)
def cO3 (s : Sy) : Nat × Obj := (3584, ⟨.own, 92, s.ways.map (sItem 100)⟩)
def H_c2 (s : Sy) (i : Nat) : St := ⟨[(1, .ptr 128 [] 0), (2, .ptr 192 [] 0), (3, .ptr 256 [] 0), (29, .c (.sl 1 [] 0 s.states.length)), (30, .c (.v (.int .i64 s.states.length))), (31, .c (.v (.int .i64 i)))], sysO s ++ ([(128, sysX s), (192, zBox), (256, ⟨.box, 45, [.l 1664 [] 0 s.progs.length, lkZ 2624 i, .z, .z]⟩), cO1 s] ++ obZ 2624 i ⟨.own, 27, ssT (s.states.take i)⟩)⟩
def H_c3 (s : Sy) (i : Nat) : St := ⟨[(1, .ptr 128 [] 0), (2, .ptr 192 [] 0), (3, .ptr 256 [] 0), (44, .c (.sl 2 [] 0 s.ways.length)), (45, .c (.v (.int .i64 s.ways.length))), (46, .c (.v (.int .i64 i)))], sysO s ++ ([(128, sysX s), (192, zBox), (256, ⟨.box, 45, [.l 1664 [] 0 s.progs.length, .l 2624 [] 0 s.states.length, lkZ 3584 i, .z]⟩), cO1 s, cO2 s] ++ obZ 3584 i ⟨.own, 92, (s.ways.take i).map (sItem 100)⟩)⟩
def H_c4 (s : Sy) (i : Nat) : St := ⟨[(2, .ptr 192 [] 0), (3, .ptr 256 [] 0), (59, .c (.sl 3 [] 0 s.hist.length)), (60, .c (.v (.int .i64 s.hist.length))), (61, .c (.v (.int .i64 i)))], sysO s ++ ([(128, sysX s), (192, zBox), (256, ⟨.box, 45, [.l 1664 [] 0 s.progs.length, .l 2624 [] 0 s.states.length, .l 3584 [] 0 s.ways.length, lkZ 4544 i]⟩), cO1 s, cO2 s, cO3 s] ++ obZ 4544 i ⟨.own, 54, (s.hist.take i).map (sEvent 29)⟩)⟩
theorem run_cloneSys {j : Nat} (hj : big ≤ j) (s : Sy) (h : Small s) (hf : Full s) : M.run (j + 3) 44 [.agg (syR s)] = some ([.agg (syS s)], [.agg (syR s)]) := by
 have b1 := h.progs
 have b2 := h.states
 have b3 := h.ways
 have b4 := h.hist
 obtain ⟨f1, f2, f3, f4⟩ := hf
 have l4 : 4 ≤ most := by unfold most; omega
 have l1 : 1 ≤ most := by unfold most; omega
 rw [m_run (fn := Try.f44) (i0 := 0) rfl Try.func44 rfl rfl (by simp [syR])]
 simp only [syR, syS]
 simp -implicitDefEqProofs [own1]
 rw [loop_then (H_c1 s) s.progs.length (by simp -implicitDefEqProofs [H_c1, sysO, sysX, zBox, hint1]) (by simp [big] at hj; omega) (fun i hi => by
  have hb := h.prog hi
  have e3 := run_cloneIns (j := j + 1) s.progs[i] hb
  have hs := sIns_snoc (e := 40) hi
  have tk := take_map (sIns 40) s.progs i
  have hm : min i s.progs.length = i := by omega
  have lm := le_most (n := i + 1) (by omega)
  by_cases hz : i = 0
  ·have hs0 : s.progs.take i = [] := by rw [hz]; rfl
   rw [hs0] at hs
   simp -implicitDefEqProofs [H_c1, sysO, sysX, zBox, hint1, hi, own1, e3, rIns_at hi, rIns, sIns, hs, hs0, hm, l1, lkZ_z hz, obZ_z hz, w64 (x := (i : Int) + 1) (by omega)] <;> omega
  ·simp -implicitDefEqProofs [H_c1, sysO, sysX, zBox, hint1, hi, own1, e3, rIns_at hi, rIns, sIns, hs, tk, hm, lm, lkZ_of hz, obZ_of hz, w64 (x := (i : Int) + 1) (by omega), -List.map_take])]
 have k1 : s.progs.take s.progs.length = s.progs := List.take_length
 have k2 : s.states.take s.states.length = s.states := List.take_length
 have k3 : s.ways.take s.ways.length = s.ways := List.take_length
 have k4 : s.hist.take s.hist.length = s.hist := List.take_length
 simp -implicitDefEqProofs [H_c1, sysO, sysX, zBox, k1, lkZ_of (Nat.ne_of_gt f1), obZ_of (Nat.ne_of_gt f1)]
 rw [loop_then (H_c2 s) s.states.length (by simp -implicitDefEqProofs [H_c2, cO1, sysO, sysX, zBox, hint1]) (by simp [big] at hj; omega) (fun i hi => by
  have hb := h.sta _ (List.getElem_mem hi)
  have e3 := run_cloneState (j := j) s.states[i] hb.1 hb.2
  simp only [tSta, stR, sSta, stS] at e3
  have hs := ssT_snoc hi
  have tk := ssT_tk s.states i
  have hm : min i s.states.length = i := by omega
  have lm : (i + 1) * 4 ≤ most := by unfold most; omega
  have lm' : i * 4 + 4 ≤ most := by unfold most; omega
  simp only [sSta, stS] at hs
  by_cases hz : i = 0
  ·have hs0 : ssT (s.states.take i) = [] := by rw [hz]; rfl
   rw [hs0] at hs
   simp -implicitDefEqProofs [H_c2, cO1, sysO, sysX, zBox, hint1, hi, own1, e3, tSta, stR, stT_1 hi, stT_2 hi, hs, hs0, hm, l4, lkZ_z hz, obZ_z hz, w64 (x := (i : Int) + 1) (by omega)] <;> omega
  ·simp -implicitDefEqProofs [H_c2, cO1, sysO, sysX, zBox, hint1, hi, own1, e3, tSta, stR, stT_1 hi, stT_2 hi, hs, tk, hm, lm, lm', lkZ_of hz, obZ_of hz, w64 (x := (i : Int) + 1) (by omega)])]
 simp -implicitDefEqProofs [H_c2, cO1, sysO, sysX, zBox, k2, lkZ_of (Nat.ne_of_gt f2), obZ_of (Nat.ne_of_gt f2)]
 rw [loop_then (H_c3 s) s.ways.length (by simp -implicitDefEqProofs [H_c3, cO1, cO2, sysO, sysX, zBox, hint1]) (by simp [big] at hj; omega) (fun i hi => by
  have hb := h.way hi
  have e3 := run_cloneItem (j := j + 1) s.ways[i] hb
  have hs := sItem_snoc (e := 100) hi
  have tk := take_map (sItem 100) s.ways i
  have hm : min i s.ways.length = i := by omega
  have lm := le_most (n := i + 1) (by omega)
  by_cases hz : i = 0
  ·have hs0 : s.ways.take i = [] := by rw [hz]; rfl
   rw [hs0] at hs
   simp -implicitDefEqProofs [H_c3, cO1, cO2, sysO, sysX, zBox, hint1, hi, own1, e3, rItem_at hi, rItem, sItem, hs, hs0, hm, l1, lkZ_z hz, obZ_z hz, w64 (x := (i : Int) + 1) (by omega)] <;> omega
  ·simp -implicitDefEqProofs [H_c3, cO1, cO2, sysO, sysX, zBox, hint1, hi, own1, e3, rItem_at hi, rItem, sItem, hs, tk, hm, lm, lkZ_of hz, obZ_of hz, w64 (x := (i : Int) + 1) (by omega), -List.map_take])]
 simp -implicitDefEqProofs [H_c3, cO1, cO2, sysO, sysX, zBox, k3, lkZ_of (Nat.ne_of_gt f3), obZ_of (Nat.ne_of_gt f3)]
 rw [loop_then (H_c4 s) s.hist.length (by simp -implicitDefEqProofs [H_c4, cO1, cO2, cO3, sysO, sysX, zBox, hint1]) (by simp [big] at hj; omega) (fun i hi => by
  have hb := h.his hi
  have e3 := run_cloneEvent (j := j + 1) s.hist[i] hb
  have hs := sEvent_snoc (e := 29) hi
  have tk := take_map (sEvent 29) s.hist i
  have hm : min i s.hist.length = i := by omega
  have lm := le_most (n := i + 1) (by omega)
  by_cases hz : i = 0
  ·have hs0 : s.hist.take i = [] := by rw [hz]; rfl
   rw [hs0] at hs
   simp -implicitDefEqProofs [H_c4, cO1, cO2, cO3, sysO, sysX, zBox, hint1, hi, own1, e3, rEvent_at hi, rEvent, sEvent, hs, hs0, hm, l1, lkZ_z hz, obZ_z hz, w64 (x := (i : Int) + 1) (by omega)] <;> omega
  ·simp -implicitDefEqProofs [H_c4, cO1, cO2, cO3, sysO, sysX, zBox, hint1, hi, own1, e3, rEvent_at hi, rEvent, sEvent, hs, tk, hm, lm, lkZ_of hz, obZ_of hz, w64 (x := (i : Int) + 1) (by omega), -List.map_take])]
 have t1 : (s.progs.map (sIns 40)).take s.progs.length = s.progs.map (sIns 40) := List.take_of_length_le (by simp)
 have t2 : (ssT s.states).take (s.states.length * 4) = ssT s.states := List.take_of_length_le (by rw [ssT_len]; exact Nat.le_refl _)
 have t3 : (s.ways.map (sItem 100)).take s.ways.length = s.ways.map (sItem 100) := List.take_of_length_le (by simp)
 have t4 : (s.hist.map (sEvent 29)).take s.hist.length = s.hist.map (sEvent 29) := List.take_of_length_le (by simp)
 simp -implicitDefEqProofs [H_c4, cO1, cO2, cO3, sysO, sysX, zBox, k4, t1, t2, t3, t4, lkZ_of (Nat.ne_of_gt f4), obZ_of (Nat.ne_of_gt f4), -List.map_take]
end Go.Proofs.Ytninncdacekfgaa.VM

/- A step of the program: reckoned. -/
namespace Go.Proofs.Ytninncdacekfgaa.VM
open Go Go.Proofs
set_option linter.unusedSimpArgs false
set_option linter.unusedVariables false
set_option maxRecDepth 100000
set_option maxHeartbeats 40000000
theorem Right.full {s : Sy} (R : Right s) : Full s := by
 have n1 := R.n1
 have : 0 < s.progs.length * s.progs.length := Nat.mul_pos (by omega) (by omega)
 exact ⟨by omega, by rw [R.st]; omega, by rw [R.wa]; omega, by rw [R.hi]; omega⟩
theorem syS_done {s : Sy} {m : Nat} {e : Ev} (hm : m < s.progs.length) (R : Right s) : (doneF s m e).progs = s.progs ∧ (doneF s m e).states.length = s.states.length ∧ (doneF s m e).ways.length = s.ways.length ∧ (doneF s m e).hist.length = s.hist.length := by
 refine ⟨rfl, by simp [doneF], ?_, by simp [doneF]⟩
 simp only [doneF, waysN]
 split
 ·simp
 ·split <;> simp
theorem itT_tail (r : List Itm) : (itT r).drop 2 = itT r.tail := by cases r <;> simp [itT, tItem]
theorem itS_tail {l : List (List Itm)} {e : TypeId} {m n : Nat} (r : List Itm) (hn : r.length = n + 1) : (l.map (sItem e)).set m (.s e n (itT r.tail)) = (l.set m r.tail).map (sItem e) := by
 rw [List.map_set]
 unfold sItem
 rw [List.length_tail, hn]
 rfl
theorem run_step {j : Nat} (hj : big ≤ j) (s : Sy) (R : Right s) (p peer : Int) : M.run (j + 7) 46 [.agg (syR s), .c (.v (.int .i64 p)), .c (.v (.int .i64 peer))] = some ([.agg (syS (stepF s p peer).1), .c (.v (.int .i64 (stepF s p peer).2))], [.agg (syR s), .c (.v (.int .i64 p)), .c (.v (.int .i64 peer))]) := by
 have h := R.small
 have n4 := R.n4
 have e1 := run_cloneSys (j := j + 3) (by omega) s h R.full
 have e2 := run_coming hj s R p peer
 have t1 : (s.progs.map (sIns 40)).take s.progs.length = s.progs.map (sIns 40) := List.take_of_length_le (by simp)
 have t2 : (ssT s.states).take (s.states.length * 4) = ssT s.states := List.take_of_length_le (by rw [ssT_len]; exact Nat.le_refl _)
 have t3 : (s.ways.map (sItem 100)).take s.ways.length = s.ways.map (sItem 100) := List.take_of_length_le (by simp)
 have t4 : (s.hist.map (sEvent 29)).take s.hist.length = s.hist.map (sEvent 29) := List.take_of_length_le (by simp)
 rw [m_run (fn := Try.f46) (i0 := 0) rfl Try.func46 rfl rfl (by simp [syR])]
 unfold stepF
 by_cases hc : (comeF s p peer).2 = 0
 rotate_left
 ·rw [if_neg hc]
  generalize comeF s p peer = D at *
  simp only [syR, syS, tEv] at e1 e2 ⊢
  simp -implicitDefEqProofs [own1, e1, e2, hc, t1, t2, t3, t4, -List.map_take]
 rw [if_pos hc]
 obtain ⟨m, rfl, B⟩ := come_came R hc
 rw [Int.toNat_natCast]
 rw [hc] at e2
 generalize (comeF s m peer).1 = e at *
 obtain ⟨hm, hcode, hlen, hcomes, how⟩ := B
 have h2 : m < s.states.length := by rw [R.st]; exact hm
 have h3 : m < s.hist.length := by rw [R.hi]; exact hm
 have P := R.pr hm
 have hst : stOf s m = s.states[m] := by unfold stOf; rw [List.getElem?_eq_getElem h2]; rfl
 have hpg : progOf s m = s.progs[m] := by unfold progOf; rw [List.getElem?_eq_getElem hm]; rfl
 have hrw := rowH_of h3
 rw [hst, hpg, hrw] at P
 rw [hrw] at hlen
 have e3 := (round (j := j + 1) (by omega) P.pr4 P.rok e).2.2
 have lev : (s.hist[m].length + 1) * 3 ≤ most := by unfold most; omega
 have lev' : s.hist[m].length * 3 + 3 ≤ most := by unfold most; omega
 have mle : m + 1 ≤ s.hist.length := by omega
 have tke : ∀ a b c : T, (evT s.hist[m] ++ [a, b, c]).take ((s.hist[m].length + 1) * 3) = evT s.hist[m] ++ [a, b, c] := fun a b c => List.take_of_length_le (by simp; omega)
 have tkl : (s.hist[m].length + 1) * 3 ≤ s.hist[m].length * 3 + 3 := by omega
 have hset := evS_set (l := s.hist) (e := 29) (m := m) s.hist[m] e
 have hstat := ssT_set h2 (stepS s.progs[m] s.states[m] e)
 have hd : doneF s m e = ⟨s.progs, s.states.set m (stepS s.progs[m] s.states[m] e), waysN s m e, s.hist.set m (s.hist[m] ++ [e])⟩ := by unfold doneF; rw [hst, hpg, hrw]
 rw [hd]
 simp only [syR, syS, tEv, tIns, tSta, stR, sSta, stS] at e1 e2 e3 ⊢
 generalize hg : stepS s.progs[m] s.states[m] e = g at *
 obtain ⟨g1, g2, g3, g4⟩ := g
 obtain ⟨ek, ep, ev⟩ := e
 simp only at hset hstat e2 e3 how ⊢
 rcases how with ⟨rfl, q, rfl, hq, hw, hv⟩ | ⟨rfl, q, rfl, hq, hv, t, hw⟩ | ⟨k2, k3⟩
 ·obtain ⟨w1, w2, w3⟩ := wayI_of R hm hq
  have e4 := run_wayAt (j := j + 4) s h m q
  rw [w1] at e4
  rw [w3, List.getElem?_eq_getElem w2, Option.getD_some] at hw
  simp only [waysN, if_true, Int.toNat_natCast, w3]
  rw [List.getElem?_eq_getElem w2, Option.getD_some]
  generalize m * s.progs.length + q = y at *
  have hset2 := itS_set (l := s.ways) (e := 100) (m := y) s.ways[y] ev
  have hy0 : ¬ ((y : Int) < 0) := by omega
  have yle : y + 1 ≤ s.ways.length := by omega
  have lit : s.ways[y].length * 2 + 2 ≤ most := by unfold most; omega
  have tki : ∀ a b : T, (itT s.ways[y] ++ [a, b]).take ((s.ways[y].length + 1) * 2) = itT s.ways[y] ++ [a, b] := fun a b => List.take_of_length_le (by simp; omega)
  have tkj : (s.ways[y].length + 1) * 2 ≤ s.ways[y].length * 2 + 2 := by omega
  simp only [syR] at e4
  simp -implicitDefEqProofs (maxSteps := 10000000) [own1, e1, e2, e3, e4, hm, h2, h3, tSta, stR, w2, hy0, rIns_at hm, rIns, stT_1 h2, stT_2 h2, rItem_at w2, rItem, sItem_at w2, sItem, sEvent_at h3, sEvent, hset, hset2, hstat, lev, lev', tke, tkl, mle, lit, tki, tkj, yle, t1, t2, t3, t4, show m * 4 + 4 ≤ s.states.length * 4 by omega, -List.map_take] <;> (repeat' apply And.intro) <;> first | exact List.take_of_length_le (by simp) | (congr 1; exact List.take_of_length_le (by simp)) | skip
 ·obtain ⟨w1, w2, w3⟩ := wayI_of R hq hm
  have e4 := run_wayAt (j := j + 4) s h q m
  rw [w1] at e4
  rw [w3, List.getElem?_eq_getElem w2, Option.getD_some] at hw
  simp only [waysN, show ¬ ((3 : Int) = 2) by decide, if_false, if_true, Int.toNat_natCast, w3]
  rw [List.getElem?_eq_getElem w2, Option.getD_some]
  generalize q * s.progs.length + m = y at *
  have hl : s.ways[y].length = t.length + 1 := by rw [hw]; rfl
  have hset2 := itS_tail (l := s.ways) (e := 100) (m := y) s.ways[y] hl
  have tne : ¬ ((t.length : Int) + 1 = 0) := by omega
  have tmx : max ((t.length : Int) + 1) 0 = (t.length : Int) + 1 := by omega
  have tm1 : (1 : Int) ≤ (t.length : Int) + 1 := by omega
  have tm2 : 2 + t.length * 2 ≤ (t.length + 1) * 2 := by omega
  have htl : s.ways[y].tail = t := by rw [hw]; rfl
  have hd2 := itT_tail s.ways[y]
  rw [htl] at hd2 hset2 ⊢
  have htk : (itT t).take (t.length * 2) = itT t := List.take_of_length_le (by simp)
  clear hw
  have hy0 : ¬ ((y : Int) < 0) := by omega
  have yle : y + 1 ≤ s.ways.length := by omega
  simp only [syR] at e4
  simp -implicitDefEqProofs (maxSteps := 10000000) [own1, e1, e2, e3, e4, hm, h2, h3, tSta, stR, w2, hy0, hl, tne, tmx, tm1, tm2, rIns_at hm, rIns, stT_1 h2, stT_2 h2, rItem_at w2, rItem, sItem_at w2, sItem, sEvent_at h3, sEvent, hset, hd2, htk, yle, hstat, lev, lev', tke, tkl, mle, t1, t2, t3, t4, show m * 4 + 4 ≤ s.states.length * 4 by omega, -List.map_take] <;> (repeat' apply And.intro) <;> first | exact List.take_of_length_le (by simp) | (congr 1; exact List.take_of_length_le (by simp)) | skip
 ·simp only [waysN, if_neg k2, if_neg k3]
  simp -implicitDefEqProofs (maxSteps := 10000000) [own1, e1, e2, e3, hm, h2, h3, tSta, stR, rIns_at hm, rIns, stT_1 h2, stT_2 h2, sEvent_at h3, sEvent, hset, hstat, lev, lev', tke, tkl, mle, k2, k3, t1, t2, t3, t4, show m * 4 + 4 ≤ s.states.length * 4 by omega, -List.map_take] <;> (repeat' apply And.intro) <;> first | exact List.take_of_length_le (by simp) | (congr 1; exact List.take_of_length_le (by simp)) | skip
end Go.Proofs.Ytninncdacekfgaa.VM
