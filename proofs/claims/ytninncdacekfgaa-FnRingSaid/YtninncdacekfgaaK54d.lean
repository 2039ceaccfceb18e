/- The law FnRing. -/
import Derived.Test.YtninncdacekfgaaK14
import Derived.Test.YtninncdacekfgaaK23
import Derived.Test.YtninncdacekfgaaK31
import Derived.Test.YtninncdacekfgaaK24d
import Derived.Test.YtninncdacekfgaaK25d
import Derived.Test.YtninncdacekfgaaK26d
import Derived.Test.YtninncdacekfgaaK27d
import Derived.Test.YtninncdacekfgaaK33d
import Derived.Test.YtninncdacekfgaaK34d
import Derived.Test.YtninncdacekfgaaK36d
import Derived.Test.YtninncdacekfgaaK39d
import Derived.Test.YtninncdacekfgaaK48d
import Derived.Test.YtninncdacekfgaaK51d
set_option linter.unusedSimpArgs false
set_option linter.unusedVariables false
set_option maxRecDepth 100000
set_option maxHeartbeats 80000000
namespace Go.Proofs.Ytninncdacekfgaa.VM
open Go Go.Proofs
theorem run_backCut {j : Nat} (hj : big ≤ j) (S : Sy) (R : Right S) (m : Nat) (hm : m < S.progs.length) (n : Nat) (hn : n ≤ (rowH S.hist m).length) : M.run (j + 13) 49 [.agg (syR S), .c (.v (.int .i64 m)), .c (.v (.int .i64 n))] = some ([.c (.s 3 S.hist.length (ints (shutF S.hist ((lensI S.hist).set m n))))], [.agg (syR S), .c (.v (.int .i64 m)), .c (.v (.int .i64 n))]) := by
 have h := R.small
 have hs := right_iff.2 R
 have hmh : m < S.hist.length := by rw [R.hi]; exact hm
 have b4 := h.hist
 have e1 := run_implFull (j := j + 1) (by omega) S h
 have hf : fullF S = lensI S.hist := by unfold fullF; rw [if_pos hs]
 rw [hf] at e1
 have I := lens_set_cut (h := S.hist) hmh (n := n) hn
 have ll : ((lensI S.hist).set m (n : Int)).length = S.hist.length := by simp [lensI]
 have l0 : (lensI S.hist).length = S.hist.length := by simp [lensI]
 have e2 := run_implClose (j := j) hj S h ((lensI S.hist).set m n) (by omega)
 have hc : cutOkB S ((lensI S.hist).set m n) = true := by
  unfold cutOkB
  rw [hs, cutB_iff.2 I]
  rfl
 rw [hc, if_pos rfl] at e2
 have lF := shutF_len I
 have is : (ints (lensI S.hist)).set m (.v (.int .i64 n)) = ints ((lensI S.hist).set m n) := by unfold ints; rw [List.map_set]
 rw [ll] at e2 lF
 rw [lF] at e2
 rw [l0] at e1
 rw [m_run (fn := Try.f49) (i0 := 0) rfl Try.func49 rfl rfl (by simp [syR])]
 have tk1 : (ints ((lensI S.hist).set m (n : Int))).take S.hist.length = ints ((lensI S.hist).set m (n : Int)) := List.take_of_length_le (by simp [ll])
 generalize shutF S.hist ((lensI S.hist).set m (n : Int)) = F at *
 have tk2 : (ints F).take S.hist.length = ints F := List.take_of_length_le (by simp [lF])
 generalize (lensI S.hist).set m (n : Int) = C at *
 generalize lensI S.hist = L at *
 have tk0 : (ints L).take S.hist.length = ints L := List.take_of_length_le (by simp [l0])
 simp only [syR] at e1 e2 ⊢
 simp -implicitDefEqProofs (maxSteps := 10000000) [own1, e1, e2, hmh, show m + 1 ≤ S.hist.length by omega, is, ll, l0, lF, tk0, tk1, tk2]
theorem run_implBack {j : Nat} (hj : big ≤ j) (S : Sy) (R : Right S) (m : Nat) (hm : m < S.progs.length) (n : Nat) (hn : n ≤ (rowH S.hist m).length) (hd : (atF S (shutF S.hist ((lensI S.hist).set m n))).2 = true) : M.run (j + 14) 20 [.agg (syR S), .c (.v (.int .i64 m)), .c (.v (.int .i64 n))] = some ([.agg (syS (atF S (shutF S.hist ((lensI S.hist).set m n))).1), .c (.v (.int .i64 0))], [.agg (syR S), .c (.v (.int .i64 m)), .c (.v (.int .i64 n))]) := by
 have h := R.small
 have hs := right_iff.2 R
 have hmh : m < S.hist.length := by rw [R.hi]; exact hm
 have b4 := h.hist
 have I := lens_set_cut (h := S.hist) hmh (n := n) hn
 have e0 := run_implSysOk (j := j + 3) (by omega) S h
 rw [hs] at e0
 have e1 := run_backCut hj S R m hm n hn
 have H := shutF_hold R.ord I
 have lF := shutF_len I
 have ll : ((lensI S.hist).set m (n : Int)).length = S.hist.length := by simp [lensI]
 rw [ll] at lF
 have e2 := run_implAt (j := j) hj S h (shutF S.hist ((lensI S.hist).set m n)) (by omega)
 have hw : wholeOkB S (shutF S.hist ((lensI S.hist).set m n)) = true := by
  unfold wholeOkB cutOkB
  rw [hs, cutB_iff.2 H.1, H.2.2]
  rfl
 rw [hw, if_pos rfl, lF, hd] at e2
 generalize atF S (shutF S.hist ((lensI S.hist).set m n)) = D at *
 obtain ⟨D1, D2⟩ := D
 generalize shutF S.hist ((lensI S.hist).set m n) = F at *
 have tk2 : (ints F).take S.hist.length = ints F := List.take_of_length_le (by simp [lF])
 obtain ⟨u1, u2, u3, u4⟩ := takeS2 D1
 have w := w64 (x := (S.hist.length : Int) - 1) (by omega)
 rw [rowH_of hmh] at hn
 have i1 : inB (m : Int) 0 ((S.hist.length : Int) - 1) = true := by simp [inB]; omega
 have i2 : inB (n : Int) 0 (S.hist[m].length : Int) = true := by simp [inB]; omega
 rw [m_run (fn := Try.f20) (i0 := 0) rfl Try.func20 rfl rfl (by simp [syR])]
 simp only [syR, syS] at e0 e1 e2 ⊢
 simp -implicitDefEqProofs (maxSteps := 10000000) [own1, e0, e1, e2, run64, w, i1, i2, hm, hmh, rEvent_at hmh, rEvent, tk2, lF, u1, u2, u3, u4, -List.map_take]
end Go.Proofs.Ytninncdacekfgaa.VM
namespace Go.Proofs.Ytninncdacekfgaa.VM
open Go Go.Proofs
def rgA (n : Nat) : List Ins := [⟨6, 0, 0, 0, ((1 % n : Nat) : Int)⟩, ⟨7, 2, 0, 0, (n : Int) - 1⟩, ⟨8, 0, 2, 0, 0⟩, ⟨11, 0, 0, 0, 0⟩]
def rgB (n p : Nat) : List Ins := [⟨1, 1, 0, 0, 1⟩, ⟨7, 0, 0, 0, (p : Int) - 1⟩, ⟨2, 0, 0, 1, 0⟩, ⟨6, 0, 0, 0, (((p + 1) % n : Nat) : Int)⟩, ⟨11, 0, 0, 0, 0⟩]
def rgP (n p : Nat) : List Ins := if p = 0 then rgA n else rgB n p
def ringK (n i : Nat) : List (List Ins) := (List.range i).map (rgP n)
theorem ringK_len (n i : Nat) : (ringK n i).length = i := by simp [ringK]
theorem ringK_succ (n i : Nat) : ringK n (i + 1) = ringK n i ++ [rgP n i] := by simp [ringK, List.range_succ]
structure RingF (n q : Nat) (S1 T U : Sy) : Prop where
 tot : tot (ringK n n) ≤ 1048576
 nw : newB (ringK n n) = true
 fr : (fairF (newS (ringK n n)) 20).1 = S1
 r1 : Right S1
 np : S1.progs.length = n
 halt : haltF S1 = true
 pr : printedF S1 0 = [(n : Int) - 1]
 q1 : 1 ≤ (rowH S1.hist q).length
 bk : atF S1 (shutF S1.hist ((lensI S1.hist).set q ((1 : Nat) : Int))) = (T, true)
 tr : Right T
 tp : printedF T 0 = []
 th : T.hist.length = n
 t0 : (rowH T.hist 0).length = 1
 tq : (rowH T.hist q).length = 1
 fu : (fairF T 20).1 = U
 ur : Right U
 uh : S1.hist = U.hist
 us : S1.states = U.states
 hg : hangB S1 0 1 q 1 = true
def H_rg (bs : List Int) (n i : Nat) : St := ⟨[(0, .c (.sl 0 [] 0 bs.length)), (3, .c (.v (.int .i64 n))), (4, .c (.sl 1344 [] 0 i)), (5, .c (.v (.int .i64 i)))], [(0, ⟨.ro, 5, octT bs⟩), (1344, ⟨.own, 24, (ringK n i).map (sIns 40)⟩)]⟩
theorem run_ring {j : Nat} (hj : big ≤ j) (bs : List Int) (hb : bs.length ≤ 1048576) (n q : Nat) (hn : 2 ≤ n ∧ n ≤ 4) (hq : 1 ≤ q ∧ q < n) (v1 v2 : Int) (e1 : M.run (j + 14) 14 [.c (.r 5 bs.length (octT bs)), .c (.v (.int .i64 1))] = some ([.c (.v (.int .i64 v1))], [.c (.r 5 bs.length (octT bs)), .c (.v (.int .i64 1))])) (e2 : M.run (j + 14) 14 [.c (.r 5 bs.length (octT bs)), .c (.v (.int .i64 2))] = some ([.c (.v (.int .i64 v2))], [.c (.r 5 bs.length (octT bs)), .c (.v (.int .i64 2))]))
  (h1 : Int.tmod v1 3 = (n : Int) - 2) (h2 : Int.tmod v2 ((n : Int) - 1) = (q : Int) - 1) (S1 T U : Sy) (F : RingF n q S1 T U) : M.run (j + 15) 4 [.c (.r 5 bs.length (octT bs))] = some ([.c (.v (.bool true))], [.c (.r 5 bs.length (octT bs))]) := by
 have e0 := run_big (j := j + 13) bs.length (octT bs) (by omega)
 rw [decide_eq_false (show ¬ 1048576 < bs.length by omega)] at e0
 have rl := ringK_len n n
 have e3 := run_implNew (j := j + 3) (by omega) (ringK n n) (by omega) F.tot
 have hS0 : newS (ringK n n) = newSy (ringK n n) := by unfold newS; rw [if_pos F.nw]
 have R0 : Right (newSy (ringK n n)) := by
  have := F.nw
  unfold newB at this
  rw [Bool.and_eq_true] at this
  exact right_iff.1 this.2
 have ffr := F.fr
 rw [F.nw] at e3
 rw [hS0] at e3 ffr
 have e4 := run_implFair (j := j + 3) (by omega) (newSy (ringK n n)) R0.small 20
 have s1 := F.r1.small
 have e5 := run_implHalted (j := j + 3) (by omega) S1 s1
 rw [F.halt] at e5
 have e6 := run_implPrinted (j := j + 12) S1 s1 0
 rw [F.pr] at e6
 have e7 := run_sameInts (j := j + 13) (by omega) [(n : Int) - 1] (by simp)
 have e8 := run_implBack (j := j) hj S1 F.r1 q (by rw [F.np]; omega) 1 F.q1 (by rw [F.bk])
 rw [F.bk] at e8
 rw [show ((1 : Nat) : Int) = 1 from rfl] at e8
 have st := F.tr.small
 have e9 := run_implPrinted (j := j + 12) T st 0
 rw [F.tp] at e9
 have ea := run_implFair (j := j + 3) (by omega) T st 20
 have eb := run_sameHist (j := j + 12) (by omega) U S1 F.ur.small F.uh
 have ec := run_sameStates (j := j + 11) (by omega) U S1 F.ur.small F.us
 have ed := run_implHangs (j := j + 2) (by omega) S1 s1 0 1 q 1
 rw [F.hg] at ed
 have fu := F.fu
 have t0 := F.t0
 have tq := F.tq
 have th := F.th
 rw [rowH_of (show 0 < T.hist.length by omega)] at t0
 rw [rowH_of (show q < T.hist.length by omega)] at tq
 have hq3 : q < T.hist.length := by omega
 have h03 : 0 < T.hist.length := by omega
 generalize fairF T 20 = Z at *
 obtain ⟨Z1, Z2⟩ := Z
 simp only at fu
 subst fu
 generalize fairF (newSy (ringK n n)) 20 = Y at *
 obtain ⟨Y1, Y2⟩ := Y
 simp only at ffr
 subst ffr
 generalize newSy (ringK n n) = S0 at *
 obtain ⟨u1, u2, u3, u4⟩ := takeS2 Y1
 obtain ⟨v1', v2', v3', v4'⟩ := takeS2 T
 have hn1 : ¬ ((n : Int) - 1 = 0) := by omega
 rw [m_run (fn := Try.f4) (i0 := 0) rfl Try.func4 rfl rfl (by simp)]
 simp only [ints, List.map_cons, List.map_nil, List.length_cons, List.length_nil] at e6 e7 e8 e9
 simp only [syR, syS] at e3 e4 e5 e6 e8 e9 ea eb ec ed
 simp -implicitDefEqProofs (maxSteps := 10000000) [own1, e0, e1, h1, w64 (x := (n : Int)) (by omega), w64 (x := 2 + ((n : Int) - 2)) (by omega), show (2 : Int) + ((n : Int) - 2) = n by omega]
 rw [loop_then (H_rg bs n) n (by simp -implicitDefEqProofs [H_rg, hint1, ringK]) (by simp [big] at hj; omega) (fun i hi => by
  have hs := ringK_succ n i
  have hl := ringK_len n i
  have tk : ((ringK n i).map (sIns 40)).take i = (ringK n i).map (sIns 40) := List.take_of_length_le (by simp [hl])
  have lm := le_most (n := i + 1) (by omega)
  have r1 : Int.tmod ((i : Int) + 1) n = (((i + 1) % n : Nat) : Int) := by
   have := Int.ofNat_tmod (i + 1) n
   exact this.symm
  have nz : ¬ ((n : Int) = 0) := by omega
  have nz' : ¬ (n = 0) := by omega
  have wo := w64 (x := 1) (by omega)
  have r0 : Int.tmod 1 (n : Int) = ((1 % n : Nat) : Int) := (Int.ofNat_tmod 1 n).symm
  by_cases hz : i = 0
  ·subst hz
   have hr : rgP n 0 = rgA n := rfl
   rw [hr] at hs
   simp -implicitDefEqProofs (maxSteps := 10000000) [H_rg, hint1, own1, hi, hs, hl, lm, tk, show ringK n 0 = [] from rfl, r0, nz, nz', wo, rgA, sIns, insT, tIns, w64 (x := (n : Int) - 1) (by omega)]
  ·have hr : rgP n i = rgB n i := if_neg hz
   rw [hr] at hs
   simp -implicitDefEqProofs (maxSteps := 10000000) [H_rg, hint1, own1, hi, hs, hl, lm, tk, r1, nz, nz', hz, rgB, sIns, insT, tIns, w64 (x := (i : Int) + 1) (by omega), w64 (x := (i : Int) - 1) (by omega), -List.map_take])]
 have tkr : ((ringK n n).map (sIns 40)).take n = (ringK n n).map (sIns 40) := List.take_of_length_le (by simp [rl])
 rw [rl] at e3
 simp -implicitDefEqProofs (maxSteps := 10000000) [H_rg, own1, rl, ros, e2, e3, e4, e5, e6, e7, e8, e9, ea, eb, ec, ed, h2, hn1, tkr, t0, tq, hq3, h03, rEvent_at hq3, rEvent_at h03, rEvent, sEvent_at hq3, sEvent_at h03, sEvent, v1', v2', v3', v4', u1, u2, u3, u4, w64 (x := (n : Int) - 1) (by omega), w64 (x := 1 + ((q : Int) - 1)) (by omega), w64 (x := (q : Int)) (by omega), show (1 : Int) + ((q : Int) - 1) = q by omega, -List.map_take]
end Go.Proofs.Ytninncdacekfgaa.VM
namespace Go.Proofs.Ytninncdacekfgaa.VM
open Go Go.Proofs
theorem shutF_at {h : List (List Ev)} {c : List Int} (I : CutI h c) {k : Nat} (hk : wholeB h (shutAt h c k) = true) (hb : ∀ i, i < k → wholeB h (shutAt h c i) = false) : shutF h c = shutAt h c k := by
 obtain ⟨_, h1, h2, _⟩ := shutN_spec I
 unfold shutF
 congr 1
 rcases Nat.lt_trichotomy (shutN h c) k with h' | h' | h'
 ·rw [hb _ h'] at h1
  simp at h1
 ·exact h'
 ·rw [h2 _ h'] at hk
  simp at hk
theorem new_right {l : List (List Ins)} (h1 : 1 ≤ l.length ∧ l.length ≤ 4) (hp : allTo (procB (newSy l)) l.length = true) (hw : (newSy l).ways.all wayB = true) (hf : allTo (fun a => allTo (fun b => fitsB (newSy l) a b) l.length) l.length = true) : Right (newSy l) := by
 have wl : (newSy l).ways.length = (newSy l).progs.length * (newSy l).progs.length := by simp [newSy]
 refine ⟨h1.1, h1.2, by simp [newSy], by simp [newSy], wl, (all_ways wl).1 hw, allTo_of hp, fun a b ha hb => allTo_of (allTo_of hf a ha) b hb, ?_⟩
 have e : fullD (newSy l).hist = fun _ => 0 := by
  funext q
  unfold fullD rowH newSy
  simp only [List.getElem?_replicate]
  split <;> rfl
 rw [e]
 exact .zero
structure RingK (n q : Nat) (S1 : Sy) (c : List Int) : Prop where
 n1 : 1 ≤ n ∧ n ≤ 4
 q1 : 1 ≤ q ∧ q < n
 tot : tot (ringK n n) ≤ 1048576
 proc : allTo (procB (newSy (ringK n n))) n = true
 way : (newSy (ringK n n)).ways.all wayB = true
 fit : allTo (fun a => allTo (fun b => fitsB (newSy (ringK n n)) a b) n) n = true
 fair : (fairN (newSy (ringK n n)) 20).1 = S1
 np : S1.progs.length = n
 halt : allTo (haltP S1) n = true
 pr : printedF S1 0 = [(n : Int) - 1]
 hq : 1 ≤ (rowH S1.hist q).length
 c0 : wholeB S1.hist (shutAt S1.hist ((lensI S1.hist).set q ((1 : Nat) : Int)) 0) = false
 c1 : shutAt S1.hist ((lensI S1.hist).set q ((1 : Nat) : Int)) 1 = c
 cw : wholeB S1.hist c = true
 ok : allTo (okW (hC S1 c n) n) n = true
 tp : printedF (cutS S1 c) 0 = []
 t0 : (rowH (hC S1 c n) 0).length = 1
 tq : (rowH (hC S1 c n) q).length = 1
 back : (fairN (cutS S1 c) 20).1 = S1
 h0 : 2 ≤ (rowH S1.hist 0).length
 hq2 : 2 ≤ (rowH S1.hist q).length
 clk : 1 < clk S1.hist 0 1 q
theorem RingK.facts {n q : Nat} {S1 : Sy} {c : List Int} (K : RingK n q S1 c) : RingF n q S1 (cutS S1 c) S1 := by
 have ln := ringK_len n n
 have R0 : Right (newSy (ringK n n)) := new_right (by rw [ln]; exact K.n1) (by rw [ln]; exact K.proc) K.way (by rw [ln]; exact K.fit)
 have h0 := right_iff.2 R0
 have nb : newB (ringK n n) = true := by
  unfold newB
  rw [h0, ln, decide_eq_true K.n1]
  rfl
 have hS0 : newS (ringK n n) = newSy (ringK n n) := by unfold newS; rw [if_pos nb]
 have R1 : Right S1 := by
  have := (fairN_ok R0 20).r
  rw [K.fair] at this
  exact this
 have h1 := right_iff.2 R1
 have hh := R1.hi
 have np := K.np
 have hq := K.q1
 have I := lens_set_cut (h := S1.hist) (m := q) (n := 1) (by omega) K.hq
 have hs : shutF S1.hist ((lensI S1.hist).set q ((1 : Nat) : Int)) = c := by
  rw [shutF_at I (k := 1) (by rw [K.c1]; exact K.cw) (fun i hi => by
   have : i = 0 := by omega
   subst this
   exact K.c0)]
  exact K.c1
 have Ic : CutI S1.hist c := by
  have := (shutF_hold R1.ord I).1
  rw [hs] at this
  exact this
 have hr := cutS_right R1 Ic K.cw
 rw [np, K.ok] at hr
 have RT := right_iff.1 hr
 have hat := atF_eq R1 Ic K.cw
 rw [if_pos hr] at hat
 refine ⟨K.tot, nb, ?_, R1, np, ?_, K.pr, K.hq, by rw [hs]; exact hat, RT, K.tp, ?_, ?_, ?_, ?_, R1, rfl, rfl, ?_⟩
 ·rw [hS0]
  unfold fairF
  rw [if_pos h0]
  exact K.fair
 ·unfold haltF
  rw [h1, np, K.halt]
  rfl
 ·show (hC S1 c S1.progs.length).length = n
  rw [hC_len, np]
 ·show (rowH (hC S1 c S1.progs.length) 0).length = 1
  rw [np]
  exact K.t0
 ·show (rowH (hC S1 c S1.progs.length) q).length = 1
  rw [np]
  exact K.tq
 ·unfold fairF
  rw [if_pos hr]
  exact K.back
 ·have a0 := K.h0
  have a1 := K.hq2
  have a2 := K.clk
  have b1 : isEvB S1 0 1 = true := by
   unfold isEvB
   rw [h1]
   simp [inB]
   omega
  have b2 : isEvB S1 q 1 = true := by
   unfold isEvB
   rw [h1]
   simp [inB]
   omega
  unfold hangB bothB
  rw [b1, b2]
  have hne : ¬ (0 : Int) = (q : Int) := by omega
  simp [hne]
  omega
def rgS2 : Sy := ⟨ringK 2 2, [⟨3, [0, 0, 1, 0], [1], 1⟩, ⟨4, [1, 1, 0, 0], [], 1⟩], [[], [], [], []], [[⟨2, 1, 0⟩, ⟨3, 1, 1⟩, ⟨4, 0, 1⟩, ⟨1, 0, 0⟩], [⟨1, 0, 0⟩, ⟨3, 0, 0⟩, ⟨1, 0, 0⟩, ⟨2, 0, 1⟩, ⟨1, 0, 0⟩]]⟩
def rgS3 : Sy := ⟨ringK 3 3, [⟨3, [0, 0, 2, 0], [2], 1⟩, ⟨4, [1, 1, 0, 0], [], 1⟩, ⟨4, [2, 1, 0, 0], [], 1⟩], [[], [], [], [], [], [], [], [], []], [[⟨2, 1, 0⟩, ⟨3, 2, 2⟩, ⟨4, 0, 2⟩, ⟨1, 0, 0⟩], [⟨1, 0, 0⟩, ⟨3, 0, 0⟩, ⟨1, 0, 0⟩, ⟨2, 2, 1⟩, ⟨1, 0, 0⟩], [⟨1, 0, 0⟩, ⟨3, 1, 1⟩, ⟨1, 0, 0⟩, ⟨2, 0, 2⟩, ⟨1, 0, 0⟩]]⟩
def rgS4 : Sy := ⟨ringK 4 4, [⟨3, [0, 0, 3, 0], [3], 1⟩, ⟨4, [1, 1, 0, 0], [], 1⟩, ⟨4, [2, 1, 0, 0], [], 1⟩, ⟨4, [3, 1, 0, 0], [], 1⟩], [[], [], [], [], [], [], [], [], [], [], [], [], [], [], [], []], [[⟨2, 1, 0⟩, ⟨3, 3, 3⟩, ⟨4, 0, 3⟩, ⟨1, 0, 0⟩], [⟨1, 0, 0⟩, ⟨3, 0, 0⟩, ⟨1, 0, 0⟩, ⟨2, 2, 1⟩, ⟨1, 0, 0⟩], [⟨1, 0, 0⟩, ⟨3, 1, 1⟩, ⟨1, 0, 0⟩, ⟨2, 3, 2⟩, ⟨1, 0, 0⟩], [⟨1, 0, 0⟩, ⟨3, 2, 2⟩, ⟨1, 0, 0⟩, ⟨2, 0, 3⟩, ⟨1, 0, 0⟩]]⟩
theorem ring21 : RingK 2 1 rgS2 [1, 1] where
 n1 := by omega
 q1 := by omega
 tot := by decide +kernel
 proc := by kernel_rfl
 way := by kernel_rfl
 fit := by kernel_rfl
 fair := by kernel_rfl
 np := by kernel_rfl
 halt := by kernel_rfl
 pr := by kernel_rfl
 hq := by decide +kernel
 c0 := by kernel_rfl
 c1 := by kernel_rfl
 cw := by kernel_rfl
 ok := by kernel_rfl
 tp := by kernel_rfl
 t0 := by kernel_rfl
 tq := by kernel_rfl
 back := by kernel_rfl
 h0 := by decide +kernel
 hq2 := by decide +kernel
 clk := by decide +kernel
theorem ring31 : RingK 3 1 rgS3 [1, 1, 1] where
 n1 := by omega
 q1 := by omega
 tot := by decide +kernel
 proc := by kernel_rfl
 way := by kernel_rfl
 fit := by kernel_rfl
 fair := by kernel_rfl
 np := by kernel_rfl
 halt := by kernel_rfl
 pr := by kernel_rfl
 hq := by decide +kernel
 c0 := by kernel_rfl
 c1 := by kernel_rfl
 cw := by kernel_rfl
 ok := by kernel_rfl
 tp := by kernel_rfl
 t0 := by kernel_rfl
 tq := by kernel_rfl
 back := by kernel_rfl
 h0 := by decide +kernel
 hq2 := by decide +kernel
 clk := by decide +kernel
theorem ring32 : RingK 3 2 rgS3 [1, 5, 1] where
 n1 := by omega
 q1 := by omega
 tot := by decide +kernel
 proc := by kernel_rfl
 way := by kernel_rfl
 fit := by kernel_rfl
 fair := by kernel_rfl
 np := by kernel_rfl
 halt := by kernel_rfl
 pr := by kernel_rfl
 hq := by decide +kernel
 c0 := by kernel_rfl
 c1 := by kernel_rfl
 cw := by kernel_rfl
 ok := by kernel_rfl
 tp := by kernel_rfl
 t0 := by kernel_rfl
 tq := by kernel_rfl
 back := by kernel_rfl
 h0 := by decide +kernel
 hq2 := by decide +kernel
 clk := by decide +kernel
theorem ring41 : RingK 4 1 rgS4 [1, 1, 1, 1] where
 n1 := by omega
 q1 := by omega
 tot := by decide +kernel
 proc := by kernel_rfl
 way := by kernel_rfl
 fit := by kernel_rfl
 fair := by kernel_rfl
 np := by kernel_rfl
 halt := by kernel_rfl
 pr := by kernel_rfl
 hq := by decide +kernel
 c0 := by kernel_rfl
 c1 := by kernel_rfl
 cw := by kernel_rfl
 ok := by kernel_rfl
 tp := by kernel_rfl
 t0 := by kernel_rfl
 tq := by kernel_rfl
 back := by kernel_rfl
 h0 := by decide +kernel
 hq2 := by decide +kernel
 clk := by decide +kernel
theorem ring42 : RingK 4 2 rgS4 [1, 5, 1, 1] where
 n1 := by omega
 q1 := by omega
 tot := by decide +kernel
 proc := by kernel_rfl
 way := by kernel_rfl
 fit := by kernel_rfl
 fair := by kernel_rfl
 np := by kernel_rfl
 halt := by kernel_rfl
 pr := by kernel_rfl
 hq := by decide +kernel
 c0 := by kernel_rfl
 c1 := by kernel_rfl
 cw := by kernel_rfl
 ok := by kernel_rfl
 tp := by kernel_rfl
 t0 := by kernel_rfl
 tq := by kernel_rfl
 back := by kernel_rfl
 h0 := by decide +kernel
 hq2 := by decide +kernel
 clk := by decide +kernel
theorem ring43 : RingK 4 3 rgS4 [1, 5, 5, 1] where
 n1 := by omega
 q1 := by omega
 tot := by decide +kernel
 proc := by kernel_rfl
 way := by kernel_rfl
 fit := by kernel_rfl
 fair := by kernel_rfl
 np := by kernel_rfl
 halt := by kernel_rfl
 pr := by kernel_rfl
 hq := by decide +kernel
 c0 := by kernel_rfl
 c1 := by kernel_rfl
 cw := by kernel_rfl
 ok := by kernel_rfl
 tp := by kernel_rfl
 t0 := by kernel_rfl
 tq := by kernel_rfl
 back := by kernel_rfl
 h0 := by decide +kernel
 hq2 := by decide +kernel
 clk := by decide +kernel
theorem ring_all {n q : Nat} (hn : 2 ≤ n ∧ n ≤ 4) (hq : 1 ≤ q ∧ q < n) : ∃ S1 T U : Sy, RingF n q S1 T U := by
 have h : (n = 2 ∧ q = 1) ∨ (n = 3 ∧ q = 1) ∨ (n = 3 ∧ q = 2) ∨ (n = 4 ∧ q = 1) ∨ (n = 4 ∧ q = 2) ∨ (n = 4 ∧ q = 3) := by omega
 rcases h with ⟨rfl, rfl⟩ | ⟨rfl, rfl⟩ | ⟨rfl, rfl⟩ | ⟨rfl, rfl⟩ | ⟨rfl, rfl⟩ | ⟨rfl, rfl⟩
 ·exact ⟨_, _, _, ring21.facts⟩
 ·exact ⟨_, _, _, ring31.facts⟩
 ·exact ⟨_, _, _, ring32.facts⟩
 ·exact ⟨_, _, _, ring41.facts⟩
 ·exact ⟨_, _, _, ring42.facts⟩
 ·exact ⟨_, _, _, ring43.facts⟩
theorem run_FnRing {j : Nat} (hj : big ≤ j) (bs : List Int) (hb : bs.length ≤ 9223372036854775807) (hB : ∀ n ∈ bs, 0 ≤ n ∧ n ≤ 255) : M.run (j + 15) 4 [.c (.r 5 bs.length (octT bs))] = some ([.c (.v (.bool true))], [.c (.r 5 bs.length (octT bs))]) := by
 by_cases h1 : 1048576 < bs.length
 ·have e0 := run_big (j := j + 13) bs.length (octT bs) hb
  rw [decide_eq_true h1] at e0
  rw [m_run (fn := Try.f4) (i0 := 0) rfl Try.func4 rfl rfl (by simp)]
  simp -implicitDefEqProofs [own1, e0]
 have hb : bs.length ≤ 1048576 := by omega
 obtain ⟨v1, b1, e1⟩ := run_at1 (j := j + 13) bs hb hB 1 (by omega)
 obtain ⟨v2, b2, e2⟩ := run_at1 (j := j + 13) bs hb hB 2 (by omega)
 have m1 : 0 ≤ Int.tmod v1 3 ∧ Int.tmod v1 3 < 3 := by
  rw [Int.tmod_eq_emod_of_nonneg (by omega)]
  omega
 obtain ⟨n, hn⟩ : ∃ n : Nat, Int.tmod v1 3 = (n : Int) - 2 := ⟨(Int.tmod v1 3 + 2).toNat, by omega⟩
 have m2 : 0 ≤ Int.tmod v2 ((n : Int) - 1) ∧ Int.tmod v2 ((n : Int) - 1) < (n : Int) - 1 := by
  rw [Int.tmod_eq_emod_of_nonneg (by omega)]
  exact ⟨Int.emod_nonneg _ (by omega), Int.emod_lt_of_pos _ (by omega)⟩
 obtain ⟨q, hq⟩ : ∃ q : Nat, Int.tmod v2 ((n : Int) - 1) = (q : Int) - 1 := ⟨(Int.tmod v2 ((n : Int) - 1) + 1).toNat, by omega⟩
 obtain ⟨S1, T, U, F⟩ := ring_all (n := n) (q := q) (by omega) (by omega)
 exact run_ring hj bs hb n q (by omega) (by omega) v1 v2 e1 e2 hn hq S1 T U F
theorem law_FnRing (bs : List Int) (hb : (∀ n ∈ bs, 0 ≤ n ∧ n ≤ 255) ∧ bs.length ≤ maxLen) : ∃ k xs, M.run k 4 [.c (.r 5 bs.length (octT bs))] = some ([.c (.v (.bool true))], xs) :=
 ⟨_, _, run_FnRing (Nat.le_refl _) bs (by have := hb.2; unfold maxLen at this; omega) hb.1⟩
end Go.Proofs.Ytninncdacekfgaa.VM
